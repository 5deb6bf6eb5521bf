
/- Tokens and expressions: what the Go text of isTok, needs, highOf, l2Known, l2Needs, l2High returns. No condition. -/
import Derived.Test.YtgkjakoagdkpcaaGreatDoorNst
import Derived.Test.YtgkjakoagdkpcaaGreatDoorIn
import Derived.Test.YtgkjakoagdkpcaaGreatDoorMem
import Derived.Test.YtgkjakoagdkpcaaGreatDoorBlk
import Derived.Deep.Light
import Derived.Shelf.Lay
set_option linter.unusedSimpArgs false
set_option linter.unusedVariables false
set_option maxRecDepth 100000
namespace Go.Proofs.YtgkjakoagdkpcaaGreatDoor
open Go.RowKit

theorem impl_isSmallB (n : Int) (w : World) : Calls Tryz.prog 62 #[.int .i64 n] w fun e w' => e = .returned (.bool (smallB n)) ∧ w = w' := by
  by_cases h : -2147483648 ≤ n ∧ n ≤ 2147483647
  · have e : (n == wrap64 (wrap32 n)) = true := by unfold wrap64 wrap32; rw [beq_iff_eq]; omega
    rw [show smallB n = true from inB_yes h.1 h.2]
    go_enter Tryz.func62, Tryz.ntmps62
    go_wp2
    go_ret
    exact ⟨rfl, rfl⟩
  · have e : (n == wrap64 (wrap32 n)) = false := by unfold wrap64 wrap32; rw [beq_eq_false_iff_ne]; omega
    rw [show smallB n = false from inB_no (by omega)]
    clear h
    go_enter Tryz.func62, Tryz.ntmps62
    go_wp2
    go_ret
    exact ⟨rfl, rfl⟩
theorem spec_l2Bound (n : Int) (w : World) : Calls Tryz.prog 69 #[.int .i64 n] w fun e w' => e = .returned (.bool (smallB n)) ∧ w = w' := by
  go_enter Tryz.func69, Tryz.ntmps69
  go_wp2_with (go_at_call 28; refine (spec_l1In n _ _ _).mono ?_; rintro e w' ⟨rfl, rfl⟩)
  go_ret
  exact ⟨rfl, rfl⟩
theorem tokOk_other {vars funcs o n : Int} (h1 : o ≠ 1) (h2 : o ≠ 2) (h3 : o ≠ 11) : tokOk vars funcs ⟨o, n⟩ = (inB o 3 10 && decide (n = 0)) := by
  unfold tokOk; rw [if_neg h1, if_neg h2, if_neg h3]

set_option maxHeartbeats 800000 in
theorem spec_l2Token (o n : Int) (w : World) :
    Calls Tryz.prog 148 #[.agg #[.int .i64 o, .int .i64 n]] w fun e w' => e = .returned (.bool (tokOk 100 100 ⟨o, n⟩)) ∧ Below w.heap.size w w' := by
  by_cases o1 : o = 1
  · subst o1
    rw [show tokOk 100 100 ⟨1, n⟩ = smallB n from rfl]
    go_enter Tryz.func148, Tryz.ntmps148
    go_wp2_with (go_at_call 69; refine (spec_l2Bound n _).mono ?_; rintro e w' ⟨rfl, rfl⟩)
    go_ret
    exact ⟨rfl, (Below.refl _ _).alloc (Nat.le_refl _) _⟩
  by_cases o2 : o = 2
  · subst o2
    rw [show tokOk 100 100 ⟨2, n⟩ = inB n 0 99 from rfl]
    go_enter Tryz.func148, Tryz.ntmps148
    go_wp2_with (go_at_call 28; refine (spec_l1In n _ _ _).mono ?_; rintro e w' ⟨rfl, rfl⟩)
    go_ret
    exact ⟨rfl, (Below.refl _ _).alloc (Nat.le_refl _) _⟩
  by_cases o3 : o = 11
  · subst o3
    rw [show tokOk 100 100 ⟨11, n⟩ = inB n 0 99 from rfl]
    go_enter Tryz.func148, Tryz.ntmps148
    go_wp2_with (go_at_call 28; refine (spec_l1In n _ _ _).mono ?_; rintro e w' ⟨rfl, rfl⟩)
    go_ret
    exact ⟨rfl, (Below.refl _ _).alloc (Nat.le_refl _) _⟩
  rw [tokOk_other o1 o2 o3]
  have b1 : (o == 1) = false := by rw [beq_eq_false_iff_ne]; exact o1
  have b2 : (o == 2) = false := by rw [beq_eq_false_iff_ne]; exact o2
  have b3 : (o == 11) = false := by rw [beq_eq_false_iff_ne]; exact o3
  clear o1 o2 o3
  by_cases h : 3 ≤ o ∧ o ≤ 10
  · by_cases h0 : n = 0
    · rw [inB_yes h.1 h.2, decide_eq_true h0]
      subst h0
      obtain ⟨h1, h2⟩ := h
      go_enter Tryz.func148, Tryz.ntmps148
      go_wp2_with (go_at_call 28; refine (spec_l1In_yes o _ _ h1 h2 _).mono ?_; rintro e w' ⟨rfl, rfl⟩)
      go_ret
      exact ⟨rfl, (Below.refl _ _).alloc (Nat.le_refl _) _⟩
    · rw [inB_yes h.1 h.2, decide_eq_false h0]
      have b4 : (n == 0) = false := by rw [beq_eq_false_iff_ne]; exact h0
      obtain ⟨h1, h2⟩ := h
      clear h0
      go_enter Tryz.func148, Tryz.ntmps148
      go_wp2_with (go_at_call 28; refine (spec_l1In_yes o _ _ h1 h2 _).mono ?_; rintro e w' ⟨rfl, rfl⟩)
      go_ret
      exact ⟨rfl, (Below.refl _ _).alloc (Nat.le_refl _) _⟩
  · have h' : o < 3 ∨ 10 < o := by omega
    rw [inB_no h']
    clear h
    go_enter Tryz.func148, Tryz.ntmps148
    go_wp2_with (go_at_call 28; refine (spec_l1In_no o _ _ h' _).mono ?_; rintro e w' ⟨rfl, rfl⟩)
    go_ret
    exact ⟨rfl, (Below.refl _ _).alloc (Nat.le_refl _) _⟩

theorem tok100_no {vars funcs : Int} {t : P2} (hv2 : vars ≤ 100) (hf2 : funcs ≤ 100) (h : tokOk 100 100 t = false) : tokOk vars funcs t = false := by
  unfold tokOk at h ⊢
  by_cases h1 : t.o = 1
  · rw [if_pos h1] at h ⊢; exact h
  · rw [if_neg h1] at h ⊢
    by_cases h2 : t.o = 2
    · rw [if_pos h2] at h ⊢; unfold inB at *; simp only [decide_eq_false_iff_not] at *; omega
    · rw [if_neg h2] at h ⊢
      by_cases h3 : t.o = 11
      · rw [if_pos h3] at h ⊢; unfold inB at *; simp only [decide_eq_false_iff_not] at *; omega
      · rw [if_neg h3] at h ⊢; exact h
theorem tok100_yes {vars funcs o n : Int} (h : tokOk 100 100 ⟨o, n⟩ = true) : tokOk vars funcs ⟨o, n⟩ = (decide (o ≠ 2 ∨ n < vars) && decide (o ≠ 11 ∨ n < funcs)) := by
  unfold tokOk at h ⊢
  dsimp only at h ⊢
  by_cases h1 : o = 1
  · rw [if_pos h1] at h ⊢; rw [h]; subst h1; simp
  · rw [if_neg h1] at h ⊢
    by_cases h2 : o = 2
    · rw [if_pos h2] at h ⊢; subst h2; rw [inB_iff] at h; simp only [ne_eq, not_true_eq_false, false_or, Int.reduceEq, not_false_eq_true, true_or, decide_true, Bool.and_true, Bool.true_and]; unfold inB; rw [decide_eq_decide]; omega
    · rw [if_neg h2] at h ⊢
      by_cases h3 : o = 11
      · rw [if_pos h3] at h ⊢; subst h3; rw [inB_iff] at h; simp only [ne_eq, not_true_eq_false, false_or, Int.reduceEq, not_false_eq_true, true_or, decide_true, Bool.and_true, Bool.true_and]; unfold inB; rw [decide_eq_decide]; omega
      · rw [if_neg h3] at h ⊢; rw [h]; simp [h2, h3]

set_option maxHeartbeats 1600000 in
theorem spec_l2Known (o n vars : Int) (params : List Int) (v : Value) (hv : 0 ≤ vars) (hv2 : vars ≤ 100) (hf2 : params.length ≤ 100) (w : World) (B : Nat) (hr : Rd w B v params.length (icells .i64 params)) :
    Calls Tryz.prog 145 #[.agg #[.int .i64 o, .int .i64 n], .int .i64 vars, v] w fun e w' => e = .returned (.bool (tokOk vars params.length ⟨o, n⟩)) ∧ Below w.heap.size w w' := by
  obtain ⟨A, c, rfl, hn, hc, hcell⟩ := hr
  clear hcell hn hc
  have ht := fun w => spec_l2Token o n w
  cases h : tokOk 100 100 ⟨o, n⟩
  · rw [tok100_no hv2 (by omega) h]
    simp only [h] at ht
    have Ht := Lib.hid ht; clear ht h
    go_enter Tryz.func145, Tryz.ntmps145
    go_wp2_with (go_at_call 148; refine (Ht.out _).mono ?_; rintro e w1 ⟨rfl, hb1⟩)
    go_ret
    exact ⟨rfl, ((Below.refl _ _).alloc (Nat.le_refl _) _).trans (hb1.mono (by rw [World.size_alloc]; omega))⟩
  · have hy := tok100_yes (vars := vars) (funcs := params.length) h
    simp only [h] at ht
    have Ht := Lib.hid ht
    generalize tokOk vars params.length ⟨o, n⟩ = R at *
    have hf3 : (params.length : Int) ≤ 100 := by omega
    generalize params.length = m at *
    by_cases o2 : o = 2
    · subst o2
      by_cases hlt : n < vars
      · rw [show R = true by rw [hy]; simp [hlt]]
        clear ht h hy
        go_enter Tryz.func145, Tryz.ntmps145
        go_wp2_with fail
        refine (Ht.out _).mono ?_
        rintro e w1 ⟨rfl, hb1⟩
        have c0 := hb1.cell (p := ⟨w.heap.size, 0, none⟩) (by rw [World.size_alloc]; show w.heap.size < _; omega)
        have c1 := hb1.cell (p := ⟨w.heap.size, 1, none⟩) (by rw [World.size_alloc]; show w.heap.size < _; omega)
        go_wp2
        go_ret
        exact ⟨rfl, ((Below.refl _ _).alloc (Nat.le_refl _) _).trans (hb1.mono (by rw [World.size_alloc]; omega))⟩
      · rw [show R = false by rw [hy]; simp [hlt]]
        clear ht h hy
        go_enter Tryz.func145, Tryz.ntmps145
        go_wp2_with fail
        refine (Ht.out _).mono ?_
        rintro e w1 ⟨rfl, hb1⟩
        have c0 := hb1.cell (p := ⟨w.heap.size, 0, none⟩) (by rw [World.size_alloc]; show w.heap.size < _; omega)
        have c1 := hb1.cell (p := ⟨w.heap.size, 1, none⟩) (by rw [World.size_alloc]; show w.heap.size < _; omega)
        go_wp2
        go_ret
        exact ⟨rfl, ((Below.refl _ _).alloc (Nat.le_refl _) _).trans (hb1.mono (by rw [World.size_alloc]; omega))⟩
    by_cases o3 : o = 11
    · subst o3
      by_cases hlt : n < (m : Int)
      · rw [show R = true by rw [hy]; simp [hlt]]
        clear ht h hy o2
        go_enter Tryz.func145, Tryz.ntmps145
        go_wp2_with fail
        refine (Ht.out _).mono ?_
        rintro e w1 ⟨rfl, hb1⟩
        have c0 := hb1.cell (p := ⟨w.heap.size, 0, none⟩) (by rw [World.size_alloc]; show w.heap.size < _; omega)
        have c1 := hb1.cell (p := ⟨w.heap.size, 1, none⟩) (by rw [World.size_alloc]; show w.heap.size < _; omega)
        go_wp2
        go_ret
        exact ⟨rfl, ((Below.refl _ _).alloc (Nat.le_refl _) _).trans (hb1.mono (by rw [World.size_alloc]; omega))⟩
      · rw [show R = false by rw [hy]; simp [hlt]]
        clear ht h hy o2
        have d0 : decide (n < (m : Int)) = false := decide_eq_false hlt
        go_enter Tryz.func145, Tryz.ntmps145
        go_wp2_with fail
        refine (Ht.out _).mono ?_
        rintro e w1 ⟨rfl, hb1⟩
        have c0 := hb1.cell (p := ⟨w.heap.size, 0, none⟩) (by rw [World.size_alloc]; show w.heap.size < _; omega)
        have c1 := hb1.cell (p := ⟨w.heap.size, 1, none⟩) (by rw [World.size_alloc]; show w.heap.size < _; omega)
        go_wp2
        go_ret
        exact ⟨rfl, ((Below.refl _ _).alloc (Nat.le_refl _) _).trans (hb1.mono (by rw [World.size_alloc]; omega))⟩
    rw [show R = true by rw [hy]; simp [o2, o3]]
    have b2 : (o != 2) = true := by rw [bne_iff_ne]; exact o2
    have b3 : (o != 11) = true := by rw [bne_iff_ne]; exact o3
    clear ht h hy o2 o3
    go_enter Tryz.func145, Tryz.ntmps145
    go_wp2_with fail
    refine (Ht.out _).mono ?_
    rintro e w1 ⟨rfl, hb1⟩
    have c0 := hb1.cell (p := ⟨w.heap.size, 0, none⟩) (by rw [World.size_alloc]; show w.heap.size < _; omega)
    have c1 := hb1.cell (p := ⟨w.heap.size, 1, none⟩) (by rw [World.size_alloc]; show w.heap.size < _; omega)
    go_wp2
    go_ret
    exact ⟨rfl, ((Below.refl _ _).alloc (Nat.le_refl _) _).trans (hb1.mono (by rw [World.size_alloc]; omega))⟩
end Go.Proofs.YtgkjakoagdkpcaaGreatDoor
set_option linter.unusedSimpArgs false
set_option linter.unusedVariables false
set_option maxRecDepth 100000
namespace Go.Proofs.YtgkjakoagdkpcaaGreatDoor
open Go.RowKit Go.Shelf

theorem Rd.nil {w : World} {B : Nat} : Rd w B (.slice none 0 0) 0 [] := ⟨none, 0, rfl, Nat.le_refl _, by unfold maxLen; omega, fun j u hu => by simp at hu⟩
theorem Rd.long {w : World} {B n : Nat} {v : Value} {cs : List Value} (h : Rd w B v n cs) : n ≤ 9223372036854775807 := by
  obtain ⟨A, c, e, g1, g2, hc⟩ := h
  unfold maxLen at g2; omega
theorem below_box {w : World} {o : Obj} {w' : World} (h : Below (w.alloc o).heap.size (w.alloc o) w') : Below w.heap.size w w' :=
  ((Below.refl _ _).alloc (Nat.le_refl _) _).trans (h.mono (by rw [World.size_alloc]; omega))

theorem need_call {params : List Int} {k : Nat} (h : k < params.length) : need params ⟨11, k⟩ = params[k] := by
  unfold need; rw [if_pos rfl]; simp [List.getD, List.getElem?_eq_getElem h]
theorem need_two {params : List Int} {o n : Int} (h1 : o ≠ 11) (h2 : 3 ≤ o ∧ o ≤ 8) : need params ⟨o, n⟩ = 2 := by
  unfold need; rw [if_neg h1, if_pos h2]
theorem need_zero {params : List Int} {o n : Int} (h1 : o ≠ 11) (h2 : ¬ (3 ≤ o ∧ o ≤ 8)) : need params ⟨o, n⟩ = 0 := by
  unfold need; rw [if_neg h1, if_neg h2]

theorem impl_isReckoned (o : Int) (w : World) : Calls Tryz.prog 63 #[.int .i64 o] w fun e w' => e = .returned (.bool (inB o 3 8)) ∧ w = w' := by
  go_enter Tryz.func63, Tryz.ntmps63
  go_wp2_with (go_at_call 24; refine (impl_within o _ _ _).mono ?_; rintro e w' ⟨rfl, rfl⟩)
  go_ret
  exact ⟨rfl, rfl⟩

set_option maxHeartbeats 800000 in
theorem spec_l2Needs (o n : Int) (params : List Int) (v : Value) (w : World) (hr : Rd w w.heap.size v params.length (icells .i64 params)) (h : o = 11 → 0 ≤ n ∧ n ≤ params.length - 1) :
    Calls Tryz.prog 146 #[.agg #[.int .i64 o, .int .i64 n], v] w fun e w' => e = .returned (.int .i64 (need params ⟨o, n⟩)) ∧ Below w.heap.size w w' := by
  have hl := hr.long
  obtain ⟨A, c, rfl, hn, hc, hcell⟩ := id hr
  by_cases o1 : o = 11
  · subst o1
    obtain ⟨h1, h2⟩ := h rfl
    obtain ⟨k, rfl⟩ := Int.eq_ofNat_of_zero_le h1
    have hk : k < params.length := by omega
    obtain ⟨b, off, rfl, hbB, hs⟩ := hr.at_ (j := k) (by rw [icells_length]; exact hk)
    rw [icells_get _ _ hk] at hs
    rw [need_call hk]
    clear hcell hr h h1 h2
    go_enter Tryz.func146, Tryz.ntmps146
    go_wp2_with (go_at_call 28; refine (spec_l1In_no _ _ _ (by omega) _).mono ?_; rintro e w' ⟨rfl, rfl⟩)
    go_ret
    exact ⟨rfl, (Below.refl _ _).alloc (Nat.le_refl _) _⟩
  · have b1 : (o == 11) = false := by rw [beq_eq_false_iff_ne]; exact o1
    clear h hcell hr hn hc
    by_cases h : 3 ≤ o ∧ o ≤ 8
    · rw [need_two o1 h]
      obtain ⟨h1, h2⟩ := h
      clear o1
      go_enter Tryz.func146, Tryz.ntmps146
      go_wp2_with (go_at_call 28; refine (spec_l1In_yes _ _ _ h1 h2 _).mono ?_; rintro e w' ⟨rfl, rfl⟩)
      go_ret
      exact ⟨rfl, (Below.refl _ _).alloc (Nat.le_refl _) _⟩
    · rw [need_zero o1 h]
      have h' : o < 3 ∨ 8 < o := by omega
      clear o1 h
      go_enter Tryz.func146, Tryz.ntmps146
      go_wp2_with (go_at_call 28; refine (spec_l1In_no _ _ _ h' _).mono ?_; rintro e w' ⟨rfl, rfl⟩)
      go_ret
      exact ⟨rfl, (Below.refl _ _).alloc (Nat.le_refl _) _⟩

def allIn (l : List Int) (lo hi : Int) : Bool := l.all fun n => inB n lo hi
theorem allIn_end {l : List Int} {lo hi : Int} : allIn (l.drop l.length) lo hi = true := by simp [allIn]
theorem allIn_yes {l : List Int} {lo hi : Int} {k : Nat} (hk : k < l.length) (h : inB l[k] lo hi = true) : allIn (l.drop k) lo hi = allIn (l.drop (k + 1)) lo hi := by
  unfold allIn; rw [List.drop_eq_getElem_cons hk, List.all_cons, h, Bool.true_and]
theorem allIn_no {l : List Int} {lo hi : Int} {k : Nat} (hk : k < l.length) (h : inB l[k] lo hi = false) : allIn (l.drop k) lo hi = false := by
  unfold allIn; rw [List.drop_eq_getElem_cons hk, List.all_cons, h, Bool.false_and]
set_option maxHeartbeats 800000 in
theorem spec_l1All (v : Value) (l : List Int) (lo hi : Int) (w : World) (B : Nat) (hr : Rd w B v l.length (icells .i64 l)) :
    Calls Tryz.prog 83 #[v, .int .i64 lo, .int .i64 hi] w fun e w' => e = .returned (.bool (allIn l lo hi)) ∧ w = w' := by
  have hl := hr.long
  obtain ⟨A, c, rfl, hn, hc, hcell⟩ := id hr
  have Hr := hide hr; clear hr hcell
  go_enter Tryz.func83, Tryz.ntmps83
  go_wp2
  go_loop [11] (fun i => ∃ k : Nat, k ≤ l.length ∧ i = .int .i64 k ∧ allIn (l.drop k) lo hi = allIn l lo hi) (fun i => l.length - (intOf i).toNat)
  case atStart => exact ⟨0, by omega, rfl, rfl⟩
  case round =>
    obtain ⟨k, hk, rfl, hal⟩ := hrel
    by_cases hlt : k < l.length
    · obtain ⟨b, o, rfl, hbB, hs⟩ := Hr.out.at_ (j := k) (by rw [icells_length]; exact hlt)
      rw [icells_get _ _ hlt] at hs
      have hin := fun w => spec_l1In l[k] lo hi w
      cases g : inB l[k] lo hi
      · have Hn := hide (hal.symm.trans (allIn_no hlt g))
        simp only [g] at hin
        have Hin := Lib.hid hin; clear hin g hal Hr
        go_wp2_with (go_at_call 28; refine (Hin.out _).mono ?_; rintro e w' ⟨rfl, rfl⟩)
        go_ret
        exact ⟨retB Hn.out.symm, rfl⟩
      · have Hy := hide ((allIn_yes hlt g).symm.trans hal)
        simp only [g] at hin
        have Hin := Lib.hid hin; clear hin g hal Hr
        go_wp2_with (go_at_call 28; refine (Hin.out _).mono ?_; rintro e w' ⟨rfl, rfl⟩)
        go_round
        case rel => exact ⟨k + 1, by omega, by go_num, Hy.out⟩
        case measure => simp [intOf]; omega
    · obtain rfl : k = l.length := by omega
      have Hy := hide (hal.symm.trans allIn_end); clear hal
      go_wp2
      go_ret
      exact ⟨retB Hy.out.symm, rfl⟩

theorem parOk_allIn {l : List Int} : parOk l = (decide (l.length ≤ 5) && allIn l 0 2) := rfl
theorem spec_l2Params (v : Value) (l : List Int) (w : World) (B : Nat) (hr : Rd w B v l.length (icells .i64 l)) :
    Calls Tryz.prog 115 #[v] w fun e w' => e = .returned (.bool (parOk l)) ∧ w = w' := by
  have hl := hr.long
  obtain ⟨A, c, rfl, hn, hc, hcell⟩ := id hr
  have Hr := hide hr; clear hr hcell
  rw [parOk_allIn]
  by_cases g : l.length ≤ 5
  · rw [decide_eq_true g, Bool.true_and]
    go_enter Tryz.func115, Tryz.ntmps115
    go_wp2_with (go_at_call 83; refine (spec_l1All _ l _ _ _ _ Hr.out).mono ?_; rintro e w' ⟨rfl, rfl⟩)
    go_ret
    exact ⟨rfl, rfl⟩
  · rw [decide_eq_false g, Bool.false_and]
    go_enter Tryz.func115, Tryz.ntmps115
    go_wp2
    go_ret
    exact ⟨rfl, rfl⟩
/-- ContainsFunc over numbers that are read -/
theorem anyInt (v : Value) (l : List Int) (p : Int → Bool) (g : Nat) (eg : ∀ args w, (callFunc g args).run Tryz.prog w = .ok (.enter g args) w) (w : World) (hr : Rd w w.heap.size v l.length (icells .i64 l))
    (hp : ∀ n W, Calls Tryz.prog g #[.int .i64 n] W fun e w' => e = .returned (.bool (p n)) ∧ W = w') :
    Calls Tryz.prog 49 #[v, .func (.func g) #[] #[]] w fun e w' => e = .returned (.bool (l.any p)) ∧ Below w.heap.size w w' := by
  have hl := hr.long
  obtain ⟨A, c, rfl, hn, hc, hcell⟩ := id hr
  rw [← anyq_list (q := fun j => p (l.getD j 0)) (p := p) (l := l) (fun j hj => by simp [List.getD, List.getElem?_eq_getElem hj])]
  refine cfI A l.length c (fun j => .int .i64 (l.getD j 0)) _ g #[] eg w hl (fun j hj => ?_) (fun j hj W hW => (hp _ W).mono fun e w' ⟨h1, h2⟩ => ⟨h1, by rw [← h2]; exact Below.refl _ _⟩)
  obtain ⟨b, o, hA, hbB, hs⟩ := hr.at_ (j := j) (by rw [icells_length]; exact hj)
  rw [icells_get _ _ hj] at hs
  exact ⟨b, o, hA, hbB, by rw [hs]; simp [List.getD, List.getElem?_eq_getElem hj]⟩
theorem any_not {l : List Int} {lo hi : Int} : (l.any fun n => !inB n lo hi) = !allIn l lo hi := by
  unfold allIn; rw [List.all_eq_not_any_not]; simp
end Go.Proofs.YtgkjakoagdkpcaaGreatDoor
set_option linter.unusedSimpArgs false
set_option linter.unusedVariables false
set_option maxRecDepth 100000
namespace Go.Proofs.YtgkjakoagdkpcaaGreatDoor
open Go.RowKit Go.Shelf

theorem tok_call {vars funcs o n : Int} (h : tokOk vars funcs ⟨o, n⟩ = true) : o = 11 → 0 ≤ n ∧ n ≤ funcs - 1 := by
  rintro rfl
  have : tokOk vars funcs ⟨11, n⟩ = inB n 0 (funcs - 1) := rfl
  rw [this] at h
  exact inB_iff.1 h

end Go.Proofs.YtgkjakoagdkpcaaGreatDoor
set_option linter.unusedSimpArgs false
set_option linter.unusedVariables false
set_option maxRecDepth 100000
namespace Go.Proofs.YtgkjakoagdkpcaaGreatDoor
open Go.RowKit Go.Shelf

theorem spec_l1Most (a b : Int) (w : World) : Calls Tryz.prog 147 #[.int .i64 a, .int .i64 b] w fun e w' => e = .returned (.int .i64 (max a b)) ∧ w = w' := by
  by_cases h : b < a
  · rw [show max a b = a by omega]
    go_enter Tryz.func147, Tryz.ntmps147
    go_wp2
    go_ret
    exact ⟨rfl, rfl⟩
  · rw [show max a b = b by omega]
    go_enter Tryz.func147, Tryz.ntmps147
    go_wp2
    go_ret
    exact ⟨rfl, rfl⟩

set_option maxHeartbeats 1600000 in
theorem spec_l2High (v : Value) (e : List P2) (vars : Int) (pv : Value) (params : List Int) (w : World) (hr : Rd w w.heap.size v e.length (pcells e)) (hp : Rd w w.heap.size pv params.length (icells .i64 params)) (hv : 0 ≤ vars) (hv2 : vars ≤ 6) (hok : parOk params = true) :
    Calls Tryz.prog 143 #[v, .int .i64 vars, pv] w fun e' w' => e' = .returned (.int .i64 (specHigh vars params e)) ∧ Below w.heap.size w w' := by
  have hl := hr.long
  have hp5 := (parOk_iff.1 hok).1
  obtain ⟨A, c, rfl, hn, hc, hcell⟩ := id hr
  obtain ⟨A2, c2, rfl, hn2, hc2, hcell2⟩ := id hp
  have h0 := @specHigh_none vars params e
  have h1 := fun (c m : Int) h hl hc => @specHigh_some vars params hok e c m h hl hc
  have h2 := fun (c m : Int) h hc => @specHigh_bad vars params e c m h hc
  have Hr := hide hr; have Hp := hide hp; have Hok := hide hok; clear hr hcell hp hcell2 hok hn hc hn2 hc2
  generalize specHigh vars params e = F at *
  have H0 := hide h0; have H1 := hide h1; have H2 := hide h2; clear h0 h1 h2
  go_enter Tryz.func143, Tryz.ntmps143
  go_wp2
  go_loopw [8, 7, 13] (fun hi co i wr => ∃ (k : Nat) (x y : Int), k ≤ e.length ∧ i = .int .i64 k ∧ co = .int .i64 x ∧ hi = .int .i64 y ∧ 0 ≤ x ∧ x ≤ k ∧ 0 ≤ y ∧ y ≤ k ∧ runE vars params (e.drop k) x y = runE vars params e 0 0 ∧ Below w.heap.size w wr) (fun _ _ i _ => e.length - (intOf i).toNat)
  case atStart => exact ⟨0, 0, 0, by omega, rfl, rfl, rfl, by omega, by omega, by omega, by omega, rfl, Below.refl _ _⟩
  case round =>
    obtain ⟨k, x, y, hk, rfl, rfl, rfl, hx0, hxk, hy0, hyk, hrun, hb⟩ := hrel
    by_cases hlt : k < e.length
    · obtain ⟨b, o, rfl, hbB, hs0, hs1⟩ := Hr.out.two' hb (Nat.le_refl _) hlt
      have hpr := Hp.out.here hb
      have hnb := need_bd Hok.out e[k]
      have hyes := fun a b => runE_yes (vars := vars) (params := params) (c := x) (h := y) hlt a b
      have hno := fun a => runE_no (vars := vars) (params := params) (c := x) (h := y) hlt a
      rw [hrun] at hyes hno
      generalize e[k] = t at hs0 hs1 hnb hyes hno
      obtain ⟨to, tn⟩ := t
      dsimp only at hs0 hs1
      have htk := fun w hr => spec_l2Known to tn vars params (.slice A2 params.length c2) hv (by omega) (by omega) w w.heap.size hr
      have hcall := @tok_call vars params.length to tn
      have hnd := fun w hr h => spec_l2Needs to tn params (.slice A2 params.length c2) w hr h
      have Hb := hide hb; have Hpr := hide hpr; have hsz := hb.size
      have Hpa := hide (hpr.here ((Below.refl _ _).alloc (Nat.le_refl _) (.cells #[.int .i64 to, .int .i64 tn] 142)))
      clear hb hpr hrun
      by_cases ht : tokOk vars params.length ⟨to, tn⟩ = true
      · simp only [ht] at htk
        have Htk := Lib.hid htk; have Hnd := hide hnd; have Hcall := hide (hcall ht); clear htk hnd hcall
        generalize need params ⟨to, tn⟩ = nd at *
        obtain ⟨hn0, hn2⟩ := hnb
        go_wp2_with fail
        refine (Htk.out _ Hpa.out).mono ?_
        rintro e1 w1 ⟨rfl, hb1⟩
        have c0 := hb1.cell (p := ⟨wr.heap.size, 0, none⟩) (by rw [World.size_alloc]; show wr.heap.size < _; omega)
        have c1 := hb1.cell (p := ⟨wr.heap.size, 1, none⟩) (by rw [World.size_alloc]; show wr.heap.size < _; omega)
        have z1 := hb1.size
        rw [World.size_alloc] at z1
        have Hb1 := hide (below_box hb1); clear hb1
        go_wp2_with fail
        refine (Hnd.out _ (Hpr.out.here Hb1.out) Hcall.out).mono ?_
        rintro e2 w2 ⟨rfl, hb2⟩
        have c0' := (hb2.cell (p := ⟨wr.heap.size, 0, none⟩) (by show wr.heap.size < _; omega))
        have c1' := (hb2.cell (p := ⟨wr.heap.size, 1, none⟩) (by show wr.heap.size < _; omega))
        have Hb2 := hide (Hb1.out.trans (hb2.mono (by omega))); clear hb2
        by_cases hle : nd ≤ x
        · have Hyes := hide (hyes ht hle); clear hyes hno
          go_wp2_with fail
          refine (Hnd.out _ (Hpr.out.here Hb2.out) Hcall.out).mono ?_
          rintro e3 w3 ⟨rfl, hb3⟩
          have z2 := Hb2.out.size
          have Hb3 := hide (Hb.out.trans ((Hb2.out.trans (hb3.mono (by omega))).mono hsz)); clear hb3
          go_wp2_with (go_at_call 147; refine (spec_l1Most _ _ _).mono ?_; rintro e4 w4 ⟨rfl, rfl⟩)
          go_roundw
          case rel => exact ⟨k + 1, x + 1 - nd, max y (x + 1 - nd), by omega, by go_num, congrArg (Value.int .i64) (by omega), congrArg (Value.int .i64) (by omega), by omega, by omega, by omega, by omega, Hyes.out.symm, Hb3.out⟩
          case measure => simp [intOf]; omega
        · have Hno := hide (H0.out (hno (fun h => hle h.2))); clear hyes hno
          have hle' : x < nd := by omega
          clear hle
          go_wp2
          go_ret
          exact ⟨retI Hno.out.symm, Hb.out.trans (Hb2.out.mono hsz)⟩
      · have htf : tokOk vars params.length ⟨to, tn⟩ = false := by simpa using ht
        have Hno := hide (H0.out (hno (fun h => ht h.1))); clear hyes hno
        simp only [htf] at htk
        have Htk := Lib.hid htk; clear htk hnd hcall ht htf hnb
        go_wp2_with fail
        refine (Htk.out _ Hpa.out).mono ?_
        rintro e1 w1 ⟨rfl, hb1⟩
        go_wp2
        go_ret
        exact ⟨retI Hno.out.symm, Hb.out.trans ((below_box hb1).mono hsz)⟩
    · obtain rfl : k = e.length := by omega
      rw [List.drop_length] at hrun
      have hrun' : runE vars params e 0 0 = some (x, y) := hrun.symm
      by_cases hx : x = 1
      · by_cases h12 : e.length ≤ 12
        · have Hf := hide (H1.out x y hrun' h12 hx); clear hrun hrun'
          subst hx
          go_wp2
          go_ret
          exact ⟨retI Hf.out.symm, hb⟩
        · have Hf := hide (H2.out x y hrun' (.inr (by omega))); clear hrun hrun'
          subst hx
          go_wp2
          go_ret
          exact ⟨retI Hf.out.symm, hb⟩
      · have Hf := hide (H2.out x y hrun' (.inl hx)); clear hrun hrun'
        have hx' : (x != 1) = true := by rw [bne_iff_ne]; exact hx
        clear hx
        go_wp2
        go_ret
        exact ⟨retI Hf.out.symm, hb⟩

theorem spec_GoodExpr (v : Value) (e : List P2) (vars : Int) (pv : Value) (params : List Int) (w : World) (hr : Rd w w.heap.size v e.length (pcells e)) (hp : Rd w w.heap.size pv params.length (icells .i64 params)) :
    Calls Tryz.prog 137 #[v, .int .i64 vars, pv] w fun e' w' => e' = .returned (.bool (goodExpr e vars params)) ∧ Below w.heap.size w w' := by
  unfold goodExpr
  obtain ⟨A, c, rfl, hn, hc, hcell⟩ := id hr
  obtain ⟨A2, c2, rfl, hn2, hc2, hcell2⟩ := id hp
  have Hr := hide hr; have Hp := hide hp; clear hr hcell hp hcell2 hn hc hn2 hc2
  by_cases hv : 0 ≤ vars ∧ vars ≤ 6
  · rw [decide_eq_true hv, Bool.true_and]
    obtain ⟨hv1, hv2⟩ := hv
    have hpar := fun w => spec_l2Params (.slice A2 params.length c2) params w
    cases hok : parOk params
    · rw [Bool.false_and]
      simp only [hok] at hpar
      have Hpar := Lib.hid hpar; clear hpar hok
      go_enter Tryz.func137, Tryz.ntmps137
      go_wp2_with (first
        | (go_at_call 28; refine (spec_l1In_yes _ _ _ hv1 hv2 _).mono ?_; rintro e w' ⟨rfl, rfl⟩)
        | (go_at_call 115; refine (Hpar.out _ _ Hp.out).mono ?_; rintro e w' ⟨rfl, rfl⟩))
      go_ret
      exact ⟨rfl, Below.refl _ _⟩
    · rw [Bool.true_and]
      have hb := highOf_bd (vars := vars) hok e
      have hh := spec_l2High (.slice A e.length c) e vars (.slice A2 params.length c2) params w Hr.out Hp.out hv1 hv2 hok
      simp only [hok] at hpar
      have Hpar := Lib.hid hpar; clear hpar hok
      have hsp : specHigh vars params e = if highOf vars params e = 0 then -1 else highOf vars params e := rfl
      generalize specHigh vars params e = S at *
      generalize highOf vars params e = F at *
      by_cases h0 : F = 0
      · rw [if_pos h0] at hsp
        subst hsp
        rw [h0, decide_eq_false (by omega)]
        have Hh := Lib.hid hh; clear hh
        go_enter Tryz.func137, Tryz.ntmps137
        go_wp2_with (first
          | (go_at_call 28; refine (spec_l1In_yes _ _ _ hv1 hv2 _).mono ?_; rintro e w' ⟨rfl, rfl⟩)
          | (go_at_call 115; refine (Hpar.out _ _ Hp.out).mono ?_; rintro e w' ⟨rfl, rfl⟩)
          | (go_at_call 143; refine Hh.out.mono ?_; rintro e w' ⟨rfl, hb2⟩))
        go_ret
        exact ⟨rfl, hb2⟩
      · rw [if_neg h0] at hsp
        subst hsp
        have h1 : 0 < S := by omega
        rw [decide_eq_true h1]
        have Hh := Lib.hid hh; clear hh h0
        go_enter Tryz.func137, Tryz.ntmps137
        go_wp2_with (first
          | (go_at_call 28; refine (spec_l1In_yes _ _ _ hv1 hv2 _).mono ?_; rintro e w' ⟨rfl, rfl⟩)
          | (go_at_call 115; refine (Hpar.out _ _ Hp.out).mono ?_; rintro e w' ⟨rfl, rfl⟩)
          | (go_at_call 143; refine Hh.out.mono ?_; rintro e w' ⟨rfl, hb2⟩))
        go_ret
        exact ⟨rfl, hb2⟩
  · rw [decide_eq_false hv, Bool.false_and]
    have hv' : vars < 0 ∨ 6 < vars := by omega
    clear hv
    go_enter Tryz.func137, Tryz.ntmps137
    go_wp2_with (go_at_call 28; refine (spec_l1In_no _ _ _ hv' _).mono ?_; rintro e w' ⟨rfl, rfl⟩)
    go_ret
    exact ⟨rfl, Below.refl _ _⟩

end Go.Proofs.YtgkjakoagdkpcaaGreatDoor
set_option linter.unusedSimpArgs false
set_option linter.unusedVariables false
set_option maxRecDepth 100000
namespace Go.Proofs.YtgkjakoagdkpcaaGreatDoor
open Go.RowKit Go.Shelf

def highR (e : List P2) (params : List Int) : Int := if parOk params = true then highOf 6 params e else 0
def highB (e : List P2) (params : List Int) : Bool := decide (0 < highR e params)
theorem retIBx {a b : Int} {c d : Bool} (h : a = b) (h2 : c = d) : Ending.returned (.tuple #[.int .i64 a, .bool c]) = .returned (.tuple #[.int .i64 b, .bool d]) := by rw [h, h2]

def needB (t : P2) (params : List Int) : Bool := parOk params && tokOk 6 params.length t
def needR (t : P2) (params : List Int) : Int := if needB t params = true then need params t else 0
end Go.Proofs.YtgkjakoagdkpcaaGreatDoor
