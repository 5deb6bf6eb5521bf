
/- isIns, isSized, takesPuts and the reference's: what the Go text returns. No condition. -/
import Derived.Test.YtaebmliolpgmdaaGreatImP
import Derived.Test.YtaebmliolpgmdaaGreatEx2
import Derived.Test.YtaebmliolpgmdaaGreatCfP
set_option linter.unusedSimpArgs false
set_option linter.unusedVariables false
set_option maxRecDepth 100000
namespace Go.Proofs.YtaebmliolpgmdaaGreat
open Go.RowKit Go.Shelf

set_option maxHeartbeats 3200000 in
theorem impl_hasN (o : Int) (w : World) : Calls Tryz.prog 109 #[.int .i64 o] w fun e w' => e = .returned (.bool (hasNB o)) ∧ w = w' := by
  by_cases h : 1 ≤ o ∧ o ≤ 18
  · rcases op_ways h with rfl | rfl | rfl | rfl | rfl | rfl | rfl | rfl | rfl | rfl | rfl | rfl | rfl | rfl | rfl | rfl | rfl | rfl
    all_goals
      clear h
      go_enter Tryz.func109, Tryz.ntmps109
      go_wp2
      go_ret
      exact ⟨rfl, rfl⟩
  · rw [hasNB_out h]
    have b1 : (o == 1) = false := by rw [beq_eq_false_iff_ne]; omega
    have b2 : (o == 2) = false := by rw [beq_eq_false_iff_ne]; omega
    have b3 : (o == 3) = false := by rw [beq_eq_false_iff_ne]; omega
    have b4 : (o == 4) = false := by rw [beq_eq_false_iff_ne]; omega
    have b7 : (o == 7) = false := by rw [beq_eq_false_iff_ne]; omega
    have b10 : (o == 10) = false := by rw [beq_eq_false_iff_ne]; omega
    have b11 : (o == 11) = false := by rw [beq_eq_false_iff_ne]; omega
    have b12 : (o == 12) = false := by rw [beq_eq_false_iff_ne]; omega
    have b17 : (o == 17) = false := by rw [beq_eq_false_iff_ne]; omega
    clear h
    go_enter Tryz.func109, Tryz.ntmps109
    go_wp2
    go_ret
    exact ⟨rfl, rfl⟩
set_option maxHeartbeats 3200000 in
theorem spec_l5HasN (o : Int) (w : World) : Calls Tryz.prog 104 #[.int .i64 o] w fun e w' => e = .returned (.bool (hasNB o)) ∧ w = w' := by
  by_cases h : 1 ≤ o ∧ o ≤ 18
  · rcases op_ways h with rfl | rfl | rfl | rfl | rfl | rfl | rfl | rfl | rfl | rfl | rfl | rfl | rfl | rfl | rfl | rfl | rfl | rfl
    all_goals
      clear h
      go_enter Tryz.func104, Tryz.ntmps104
      go_wp2
      go_ret
      exact ⟨rfl, rfl⟩
  · rw [hasNB_out h]
    have b1 : (o == 1) = false := by rw [beq_eq_false_iff_ne]; omega
    have b2 : (o == 2) = false := by rw [beq_eq_false_iff_ne]; omega
    have b3 : (o == 3) = false := by rw [beq_eq_false_iff_ne]; omega
    have b4 : (o == 4) = false := by rw [beq_eq_false_iff_ne]; omega
    have b7 : (o == 7) = false := by rw [beq_eq_false_iff_ne]; omega
    have b10 : (o == 10) = false := by rw [beq_eq_false_iff_ne]; omega
    have b11 : (o == 11) = false := by rw [beq_eq_false_iff_ne]; omega
    have b12 : (o == 12) = false := by rw [beq_eq_false_iff_ne]; omega
    have b17 : (o == 17) = false := by rw [beq_eq_false_iff_ne]; omega
    clear h
    go_enter Tryz.func104, Tryz.ntmps104
    go_wp2
    go_ret
    exact ⟨rfl, rfl⟩

set_option maxHeartbeats 1600000 in
theorem impl_isIns (o n : Int) (w : World) : Calls Tryz.prog 88 #[.agg #[.int .i64 o, .int .i64 n]] w fun e w' => e = .returned (.bool (insOk ⟨o, n⟩)) ∧ Below w.heap.size w w' := by
  by_cases hb : 1 ≤ o ∧ o ≤ 18
  · by_cases o1 : o = 1
    · subst o1
      rw [insOk_num]
      clear hb
      go_enter Tryz.func88, Tryz.ntmps88
      go_wp2_with (first
        | (go_at_call 24; refine (impl_within_yes _ _ _ (by omega) (by omega) _).mono ?_; rintro e w' ⟨rfl, rfl⟩)
        | (go_at_call 69; refine (impl_isSmallB n _).mono ?_; rintro e w' ⟨rfl, rfl⟩))
      go_ret
      exact ⟨rfl, (Below.refl _ _).alloc (Nat.le_refl _) _⟩
    by_cases o4 : o = 4
    · subst o4
      rw [insOk_reckon]
      clear hb
      go_enter Tryz.func88, Tryz.ntmps88
      go_wp2_with (first
        | (go_at_call 24; refine (impl_within_yes _ _ _ (by omega) (by omega) _).mono ?_; rintro e w' ⟨rfl, rfl⟩)
        | (go_at_call 108; refine (impl_isReckoned n _).mono ?_; rintro e w' ⟨rfl, rfl⟩))
      go_ret
      exact ⟨rfl, (Below.refl _ _).alloc (Nat.le_refl _) _⟩
    have b1 : (o == 1) = false := by rw [beq_eq_false_iff_ne]; exact o1
    have b4 : (o == 4) = false := by rw [beq_eq_false_iff_ne]; exact o4
    have hh := fun w => impl_hasN o w
    cases g : hasNB o
    · rw [insOk_0 o1 o4 g hb]
      simp only [g] at hh
      have Hh := Lib.hid hh; clear hh g o1 o4
      obtain ⟨hb1, hb2⟩ := hb
      by_cases n0 : n = 0
      · subst n0
        go_enter Tryz.func88, Tryz.ntmps88
        go_wp2_with (first
          | (go_at_call 24; refine (impl_within_yes _ _ _ hb1 hb2 _).mono ?_; rintro e w' ⟨rfl, rfl⟩)
          | (go_at_call 109; refine (Hh.out _).mono ?_; rintro e w' ⟨rfl, rfl⟩))
        go_ret
        exact ⟨rfl, (Below.refl _ _).alloc (Nat.le_refl _) _⟩
      · have b0 : (n == 0) = false := by rw [beq_eq_false_iff_ne]; exact n0
        rw [decide_eq_false n0]
        clear n0
        go_enter Tryz.func88, Tryz.ntmps88
        go_wp2_with (first
          | (go_at_call 24; refine (impl_within_yes _ _ _ hb1 hb2 _).mono ?_; rintro e w' ⟨rfl, rfl⟩)
          | (go_at_call 109; refine (Hh.out _).mono ?_; rintro e w' ⟨rfl, rfl⟩))
        go_ret
        exact ⟨rfl, (Below.refl _ _).alloc (Nat.le_refl _) _⟩
    · rw [insOk_n o1 o4 g]
      simp only [g] at hh
      have Hh := Lib.hid hh; clear hh g o1 o4
      obtain ⟨hb1, hb2⟩ := hb
      go_enter Tryz.func88, Tryz.ntmps88
      go_wp2_with (first
        | (go_at_call 24; first
            | ((with_reducible refine (impl_within_yes o 1 18 hb1 hb2 _).mono ?_); rintro e w' ⟨rfl, rfl⟩)
            | ((with_reducible refine (impl_within n 0 1000000 _).mono ?_); rintro e w' ⟨rfl, rfl⟩))
        | (go_at_call 109; refine (Hh.out _).mono ?_; rintro e w' ⟨rfl, rfl⟩))
      go_ret
      exact ⟨rfl, (Below.refl _ _).alloc (Nat.le_refl _) _⟩
  · rw [insOk_out hb]
    have hb' : o < 1 ∨ 18 < o := by omega
    clear hb
    go_enter Tryz.func88, Tryz.ntmps88
    go_wp2_with (go_at_call 24; refine (impl_within_no _ _ _ hb' _).mono ?_; rintro e w' ⟨rfl, rfl⟩)
    go_ret
    exact ⟨rfl, (Below.refl _ _).alloc (Nat.le_refl _) _⟩
set_option maxHeartbeats 1600000 in
theorem spec_l5Ins (o n : Int) (w : World) : Calls Tryz.prog 75 #[.agg #[.int .i64 o, .int .i64 n]] w fun e w' => e = .returned (.bool (insOk ⟨o, n⟩)) ∧ Below w.heap.size w w' := by
  by_cases o1 : o = 1
  · subst o1
    rw [insOk_num]
    go_enter Tryz.func75, Tryz.ntmps75
    go_wp2_with (go_at_call 62; refine (spec_l2Bound n _).mono ?_; rintro e w' ⟨rfl, rfl⟩)
    go_ret
    exact ⟨rfl, (Below.refl _ _).alloc (Nat.le_refl _) _⟩
  by_cases o4 : o = 4
  · subst o4
    rw [insOk_reckon]
    go_enter Tryz.func75, Tryz.ntmps75
    go_wp2_with (go_at_call 42; refine (spec_l1In n _ _ _).mono ?_; rintro e w' ⟨rfl, rfl⟩)
    go_ret
    exact ⟨rfl, (Below.refl _ _).alloc (Nat.le_refl _) _⟩
  have b1 : (o == 1) = false := by rw [beq_eq_false_iff_ne]; exact o1
  have b4 : (o == 4) = false := by rw [beq_eq_false_iff_ne]; exact o4
  have hh := fun w => spec_l5HasN o w
  cases g : hasNB o
  · simp only [g] at hh
    by_cases hb : 1 ≤ o ∧ o ≤ 18
    · rw [insOk_0 o1 o4 g hb]
      have Hh := Lib.hid hh; clear hh g o1 o4
      obtain ⟨hb1, hb2⟩ := hb
      by_cases n0 : n = 0
      · subst n0
        go_enter Tryz.func75, Tryz.ntmps75
        go_wp2_with (first
          | (go_at_call 42; refine (spec_l1In_yes _ _ _ hb1 hb2 _).mono ?_; rintro e w' ⟨rfl, rfl⟩)
          | (go_at_call 104; refine (Hh.out _).mono ?_; rintro e w' ⟨rfl, rfl⟩))
        go_ret
        exact ⟨rfl, (Below.refl _ _).alloc (Nat.le_refl _) _⟩
      · have b0 : (n == 0) = false := by rw [beq_eq_false_iff_ne]; exact n0
        rw [decide_eq_false n0]
        clear n0
        go_enter Tryz.func75, Tryz.ntmps75
        go_wp2_with (first
          | (go_at_call 42; refine (spec_l1In_yes _ _ _ hb1 hb2 _).mono ?_; rintro e w' ⟨rfl, rfl⟩)
          | (go_at_call 104; refine (Hh.out _).mono ?_; rintro e w' ⟨rfl, rfl⟩))
        go_ret
        exact ⟨rfl, (Below.refl _ _).alloc (Nat.le_refl _) _⟩
    · rw [insOk_out hb]
      have Hh := Lib.hid hh; clear hh g o1 o4
      have hb' : o < 1 ∨ 18 < o := by omega
      clear hb
      go_enter Tryz.func75, Tryz.ntmps75
      go_wp2_with (first
        | (go_at_call 42; refine (spec_l1In_no _ _ _ hb' _).mono ?_; rintro e w' ⟨rfl, rfl⟩)
        | (go_at_call 104; refine (Hh.out _).mono ?_; rintro e w' ⟨rfl, rfl⟩))
      go_ret
      exact ⟨rfl, (Below.refl _ _).alloc (Nat.le_refl _) _⟩
  · rw [insOk_n o1 o4 g]
    simp only [g] at hh
    have Hh := Lib.hid hh; clear hh g o1 o4
    go_enter Tryz.func75, Tryz.ntmps75
    go_wp2_with (first
      | (go_at_call 42; refine (spec_l1In n 0 1000000 _).mono ?_; rintro e w' ⟨rfl, rfl⟩)
      | (go_at_call 104; refine (Hh.out _).mono ?_; rintro e w' ⟨rfl, rfl⟩))
    go_ret
    exact ⟨rfl, (Below.refl _ _).alloc (Nat.le_refl _) _⟩

/-- ContainsFunc over instructions that are read -/
theorem anyIns (v : Value) (l : List P2) (p : P2 → Bool) (g : Nat) (lb : Array Value) (eg : ∀ args w, (callFunc g args).run Tryz.prog w = .ok (.enter g args) w) (w : World) (hr : Rd w w.heap.size v l.length (pcells l))
    (hp : ∀ o n W, Below w.heap.size w W → Calls Tryz.prog g (#[.agg #[.int .i64 o, .int .i64 n]] ++ lb) W fun e w' => e = .returned (.bool (p ⟨o, n⟩)) ∧ Below W.heap.size W w') :
    Calls Tryz.prog 86 #[v, .func (.func g) #[] lb] w fun e w' => e = .returned (.bool (l.any p)) ∧ Below w.heap.size w w' := by
  have hl := hr.long
  obtain ⟨A, c, rfl, hn, hc, hcell⟩ := id hr
  rw [← anyq_list (q := fun j => p (l.getD j ⟨0, 0⟩)) (p := p) (l := l) (fun j hj => by simp [List.getD, List.getElem?_eq_getElem hj])]
  refine cfIns A l.length c (fun j => .int .i64 (l.getD j ⟨0, 0⟩).o) (fun j => .int .i64 (l.getD j ⟨0, 0⟩).n) _ g lb eg w hl (fun j hj => ?_) (fun j hj W hW => hp _ _ W hW)
  obtain ⟨b, o, hA, hbB, hs0, hs1⟩ := hr.two hj
  exact ⟨b, o, hA, hbB, by rw [hs0]; simp [List.getD, List.getElem?_eq_getElem hj], by rw [hs1]; simp [List.getD, List.getElem?_eq_getElem hj]⟩
theorem impl_isSizedCode1 (o n : Int) (w : World) : Calls Tryz.prog 87 #[.agg #[.int .i64 o, .int .i64 n]] w fun e w' => e = .returned (.bool (!insOk ⟨o, n⟩)) ∧ Below w.heap.size w w' := by
  go_enter Tryz.func87, Tryz.ntmps87
  go_wp2_with (go_at_call 88; refine (impl_isIns o n _).mono ?_; rintro e w' ⟨rfl, hb⟩)
  go_ret
  exact ⟨rfl, below_box hb⟩
end Go.Proofs.YtaebmliolpgmdaaGreat
