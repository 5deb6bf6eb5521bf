
/- Instructions and sizes of an image: plain Lean. No condition. -/
import Derived.Test.YtgkjakoagdkpcaaGreatDoorNst
import Derived.Test.YtgkjakoagdkpcaaGreatDoorNdCode
import Derived.Test.YtgkjakoagdkpcaaGreatDoorEx
import Derived.Test.YtgkjakoagdkpcaaGreatDoorIn
import Derived.Test.YtgkjakoagdkpcaaGreatDoorMem
import Derived.ProofKit
import Derived.Deep.Slices
import Derived.Test.YtgkjakoagdkpcaaGreatDoorChecked
import Derived.OpenShut
import Derived.Lib.SmallJoins
set_option linter.unusedSimpArgs false
set_option linter.unusedVariables false
namespace Go.Proofs.YtgkjakoagdkpcaaGreatDoor

def hasNB (o : Int) : Bool := decide (o = 1 ∨ o = 2 ∨ o = 3 ∨ o = 4 ∨ o = 7 ∨ o = 10 ∨ o = 11 ∨ o = 12 ∨ o = 17)
def insOk (t : P2) : Bool := if t.o = 1 then smallB t.n else if t.o = 4 then inB t.n 3 8 else if hasNB t.o = true then inB t.n 0 1000000 else inB t.o 1 18 && decide (t.n = 0)
theorem op_ways {o : Int} (h : 1 ≤ o ∧ o ≤ 18) : o = 1 ∨ o = 2 ∨ o = 3 ∨ o = 4 ∨ o = 5 ∨ o = 6 ∨ o = 7 ∨ o = 8 ∨ o = 9 ∨ o = 10 ∨ o = 11 ∨ o = 12 ∨ o = 13 ∨ o = 14 ∨ o = 15 ∨ o = 16 ∨ o = 17 ∨ o = 18 := by omega
theorem insOk_bd {t : P2} (h : insOk t = true) : 1 ≤ t.o ∧ t.o ≤ 18 := by
  unfold insOk at h
  split at h
  · omega
  · split at h
    · omega
    · split at h
      · rename_i hh; unfold hasNB at hh; simp at hh; omega
      · simp at h; exact inB_iff.1 h.1
theorem hasNB_out {o : Int} (h : ¬ (1 ≤ o ∧ o ≤ 18)) : hasNB o = false := by unfold hasNB; exact decide_eq_false (by omega)
theorem insOk_out {o n : Int} (h : ¬ (1 ≤ o ∧ o ≤ 18)) : insOk ⟨o, n⟩ = false := by
  cases g : insOk ⟨o, n⟩ with
  | false => rfl
  | true => exact absurd (insOk_bd g) h
theorem insOk_num {n : Int} : insOk ⟨1, n⟩ = smallB n := rfl
theorem insOk_reckon {n : Int} : insOk ⟨4, n⟩ = inB n 3 8 := rfl
theorem insOk_n {o n : Int} (h1 : o ≠ 1) (h2 : o ≠ 4) (h : hasNB o = true) : insOk ⟨o, n⟩ = inB n 0 1000000 := by unfold insOk; rw [if_neg h1, if_neg h2, if_pos h]
theorem insOk_0 {o n : Int} (h1 : o ≠ 1) (h2 : o ≠ 4) (h : hasNB o = false) (hb : 1 ≤ o ∧ o ≤ 18) : insOk ⟨o, n⟩ = decide (n = 0) := by
  unfold insOk; rw [if_neg h1, if_neg h2, if_neg (by rw [h]; simp), inB_yes hb.1 hb.2, Bool.true_and]
def codeOk (c : CodeM) : Bool := inB c.qParams 0 2 && (inB c.qVars c.qParams 6 && (decide (c.qSites.length ≤ 4) && (inB c.qIns.length 1 300 && (decide (c.qRows.length ≤ 300) && c.qIns.all insOk))))
def sizedB (l : List CodeM) : Bool := inB l.length 1 5 && l.all codeOk
theorem codeOk_iff {c : CodeM} : codeOk c = true ↔ (0 ≤ c.qParams ∧ c.qParams ≤ 2) ∧ (c.qParams ≤ c.qVars ∧ c.qVars ≤ 6) ∧ c.qSites.length ≤ 4 ∧ (1 ≤ c.qIns.length ∧ c.qIns.length ≤ 300) ∧ c.qRows.length ≤ 300 ∧ ∀ t ∈ c.qIns, insOk t = true := by
  unfold codeOk
  simp only [Bool.and_eq_true, inB_iff, decide_eq_true_eq, List.all_eq_true]
  constructor
  · rintro ⟨a, b, c, ⟨d1, d2⟩, e, f⟩; exact ⟨a, b, c, ⟨by omega, by omega⟩, e, f⟩
  · rintro ⟨a, b, c, ⟨d1, d2⟩, e, f⟩; exact ⟨a, b, c, ⟨by omega, by omega⟩, e, f⟩
theorem sizedB_iff {l : List CodeM} : sizedB l = true ↔ (1 ≤ l.length ∧ l.length ≤ 5) ∧ ∀ c ∈ l, codeOk c = true := by
  unfold sizedB
  simp only [Bool.and_eq_true, inB_iff, List.all_eq_true]
  constructor
  · rintro ⟨⟨d1, d2⟩, f⟩; exact ⟨⟨by omega, by omega⟩, f⟩
  · rintro ⟨⟨d1, d2⟩, f⟩; exact ⟨⟨by omega, by omega⟩, f⟩
def takes (l : List CodeM) (t : P2) : Int := if t.o = 3 ∨ t.o = 8 ∨ t.o = 9 ∨ t.o = 11 ∨ t.o = 13 ∨ t.o = 15 then 1 else if t.o = 4 then 2 else if t.o = 7 then (l.getD t.n.toNat ⟨0, 0, [], [], []⟩).qParams else 0
def puts (t : P2) : Int := if t.o = 1 ∨ t.o = 2 ∨ t.o = 5 ∨ t.o = 6 ∨ t.o = 4 ∨ t.o = 7 then 1 else 0
theorem takes_call {l : List CodeM} {k : Nat} (h : k < l.length) : takes l ⟨7, k⟩ = l[k].qParams := by
  unfold takes; simp [List.getD, List.getElem?_eq_getElem h]
def tpOk (l : List CodeM) (t : P2) : Bool := sizedB l && (insOk t && decide (t.o ≠ 7 ∨ t.n < l.length))
def tpF (l : List CodeM) (t : P2) : Int × Int × Bool := if tpOk l t = true then (takes l t, puts t, true) else (0, 0, false)
end Go.Proofs.YtgkjakoagdkpcaaGreatDoor
set_option linter.unusedSimpArgs false
set_option linter.unusedVariables false
set_option maxRecDepth 100000
namespace Go.Proofs.YtgkjakoagdkpcaaGreatDoor
open Go.RowKit Go.Shelf

set_option maxHeartbeats 3200000 in
theorem impl_hasN (o : Int) (w : World) : Calls Tryz.prog 64 #[.int .i64 o] w fun e w' => e = .returned (.bool (hasNB o)) ∧ w = w' := by
  by_cases h : 1 ≤ o ∧ o ≤ 18
  · rcases op_ways h with rfl | rfl | rfl | rfl | rfl | rfl | rfl | rfl | rfl | rfl | rfl | rfl | rfl | rfl | rfl | rfl | rfl | rfl
    all_goals
      clear h
      go_enter Tryz.func64, Tryz.ntmps64
      go_wp2
      go_ret
      exact ⟨rfl, rfl⟩
  · rw [hasNB_out h]
    have b1 : (o == 1) = false := by rw [beq_eq_false_iff_ne]; omega
    have b2 : (o == 2) = false := by rw [beq_eq_false_iff_ne]; omega
    have b3 : (o == 3) = false := by rw [beq_eq_false_iff_ne]; omega
    have b4 : (o == 4) = false := by rw [beq_eq_false_iff_ne]; omega
    have b7 : (o == 7) = false := by rw [beq_eq_false_iff_ne]; omega
    have b10 : (o == 10) = false := by rw [beq_eq_false_iff_ne]; omega
    have b11 : (o == 11) = false := by rw [beq_eq_false_iff_ne]; omega
    have b12 : (o == 12) = false := by rw [beq_eq_false_iff_ne]; omega
    have b17 : (o == 17) = false := by rw [beq_eq_false_iff_ne]; omega
    clear h
    go_enter Tryz.func64, Tryz.ntmps64
    go_wp2
    go_ret
    exact ⟨rfl, rfl⟩
set_option maxHeartbeats 3200000 in
theorem spec_l5HasN (o : Int) (w : World) : Calls Tryz.prog 41 #[.int .i64 o] w fun e w' => e = .returned (.bool (hasNB o)) ∧ w = w' := by
  by_cases h : 1 ≤ o ∧ o ≤ 18
  · rcases op_ways h with rfl | rfl | rfl | rfl | rfl | rfl | rfl | rfl | rfl | rfl | rfl | rfl | rfl | rfl | rfl | rfl | rfl | rfl
    all_goals
      clear h
      go_enter Tryz.func41, Tryz.ntmps41
      go_wp2
      go_ret
      exact ⟨rfl, rfl⟩
  · rw [hasNB_out h]
    have b1 : (o == 1) = false := by rw [beq_eq_false_iff_ne]; omega
    have b2 : (o == 2) = false := by rw [beq_eq_false_iff_ne]; omega
    have b3 : (o == 3) = false := by rw [beq_eq_false_iff_ne]; omega
    have b4 : (o == 4) = false := by rw [beq_eq_false_iff_ne]; omega
    have b7 : (o == 7) = false := by rw [beq_eq_false_iff_ne]; omega
    have b10 : (o == 10) = false := by rw [beq_eq_false_iff_ne]; omega
    have b11 : (o == 11) = false := by rw [beq_eq_false_iff_ne]; omega
    have b12 : (o == 12) = false := by rw [beq_eq_false_iff_ne]; omega
    have b17 : (o == 17) = false := by rw [beq_eq_false_iff_ne]; omega
    clear h
    go_enter Tryz.func41, Tryz.ntmps41
    go_wp2
    go_ret
    exact ⟨rfl, rfl⟩

set_option maxHeartbeats 1600000 in
theorem impl_isIns (o n : Int) (w : World) : Calls Tryz.prog 31 #[.agg #[.int .i64 o, .int .i64 n]] w fun e w' => e = .returned (.bool (insOk ⟨o, n⟩)) ∧ Below w.heap.size w w' := by
  by_cases hb : 1 ≤ o ∧ o ≤ 18
  · by_cases o1 : o = 1
    · subst o1
      rw [insOk_num]
      clear hb
      go_enter Tryz.func31, Tryz.ntmps31
      go_wp2_with (first
        | (go_at_call 24; refine (impl_within_yes _ _ _ (by omega) (by omega) _).mono ?_; rintro e w' ⟨rfl, rfl⟩)
        | (go_at_call 62; refine (impl_isSmallB n _).mono ?_; rintro e w' ⟨rfl, rfl⟩))
      go_ret
      exact ⟨rfl, (Below.refl _ _).alloc (Nat.le_refl _) _⟩
    by_cases o4 : o = 4
    · subst o4
      rw [insOk_reckon]
      clear hb
      go_enter Tryz.func31, Tryz.ntmps31
      go_wp2_with (first
        | (go_at_call 24; refine (impl_within_yes _ _ _ (by omega) (by omega) _).mono ?_; rintro e w' ⟨rfl, rfl⟩)
        | (go_at_call 63; refine (impl_isReckoned n _).mono ?_; rintro e w' ⟨rfl, rfl⟩))
      go_ret
      exact ⟨rfl, (Below.refl _ _).alloc (Nat.le_refl _) _⟩
    have b1 : (o == 1) = false := by rw [beq_eq_false_iff_ne]; exact o1
    have b4 : (o == 4) = false := by rw [beq_eq_false_iff_ne]; exact o4
    have hh := fun w => impl_hasN o w
    cases g : hasNB o
    · rw [insOk_0 o1 o4 g hb]
      simp only [g] at hh
      have Hh := Lib.hid hh; clear hh g o1 o4
      obtain ⟨hb1, hb2⟩ := hb
      by_cases n0 : n = 0
      · subst n0
        go_enter Tryz.func31, Tryz.ntmps31
        go_wp2_with (first
          | (go_at_call 24; refine (impl_within_yes _ _ _ hb1 hb2 _).mono ?_; rintro e w' ⟨rfl, rfl⟩)
          | (go_at_call 64; refine (Hh.out _).mono ?_; rintro e w' ⟨rfl, rfl⟩))
        go_ret
        exact ⟨rfl, (Below.refl _ _).alloc (Nat.le_refl _) _⟩
      · have b0 : (n == 0) = false := by rw [beq_eq_false_iff_ne]; exact n0
        rw [decide_eq_false n0]
        clear n0
        go_enter Tryz.func31, Tryz.ntmps31
        go_wp2_with (first
          | (go_at_call 24; refine (impl_within_yes _ _ _ hb1 hb2 _).mono ?_; rintro e w' ⟨rfl, rfl⟩)
          | (go_at_call 64; refine (Hh.out _).mono ?_; rintro e w' ⟨rfl, rfl⟩))
        go_ret
        exact ⟨rfl, (Below.refl _ _).alloc (Nat.le_refl _) _⟩
    · rw [insOk_n o1 o4 g]
      simp only [g] at hh
      have Hh := Lib.hid hh; clear hh g o1 o4
      obtain ⟨hb1, hb2⟩ := hb
      go_enter Tryz.func31, Tryz.ntmps31
      go_wp2_with (first
        | (go_at_call 24; first
            | ((with_reducible refine (impl_within_yes o 1 18 hb1 hb2 _).mono ?_); rintro e w' ⟨rfl, rfl⟩)
            | ((with_reducible refine (impl_within n 0 1000000 _).mono ?_); rintro e w' ⟨rfl, rfl⟩))
        | (go_at_call 64; refine (Hh.out _).mono ?_; rintro e w' ⟨rfl, rfl⟩))
      go_ret
      exact ⟨rfl, (Below.refl _ _).alloc (Nat.le_refl _) _⟩
  · rw [insOk_out hb]
    have hb' : o < 1 ∨ 18 < o := by omega
    clear hb
    go_enter Tryz.func31, Tryz.ntmps31
    go_wp2_with (go_at_call 24; refine (impl_within_no _ _ _ hb' _).mono ?_; rintro e w' ⟨rfl, rfl⟩)
    go_ret
    exact ⟨rfl, (Below.refl _ _).alloc (Nat.le_refl _) _⟩
set_option maxHeartbeats 1600000 in
theorem spec_l5Ins (o n : Int) (w : World) : Calls Tryz.prog 36 #[.agg #[.int .i64 o, .int .i64 n]] w fun e w' => e = .returned (.bool (insOk ⟨o, n⟩)) ∧ Below w.heap.size w w' := by
  by_cases o1 : o = 1
  · subst o1
    rw [insOk_num]
    go_enter Tryz.func36, Tryz.ntmps36
    go_wp2_with (go_at_call 69; refine (spec_l2Bound n _).mono ?_; rintro e w' ⟨rfl, rfl⟩)
    go_ret
    exact ⟨rfl, (Below.refl _ _).alloc (Nat.le_refl _) _⟩
  by_cases o4 : o = 4
  · subst o4
    rw [insOk_reckon]
    go_enter Tryz.func36, Tryz.ntmps36
    go_wp2_with (go_at_call 28; refine (spec_l1In n _ _ _).mono ?_; rintro e w' ⟨rfl, rfl⟩)
    go_ret
    exact ⟨rfl, (Below.refl _ _).alloc (Nat.le_refl _) _⟩
  have b1 : (o == 1) = false := by rw [beq_eq_false_iff_ne]; exact o1
  have b4 : (o == 4) = false := by rw [beq_eq_false_iff_ne]; exact o4
  have hh := fun w => spec_l5HasN o w
  cases g : hasNB o
  · simp only [g] at hh
    by_cases hb : 1 ≤ o ∧ o ≤ 18
    · rw [insOk_0 o1 o4 g hb]
      have Hh := Lib.hid hh; clear hh g o1 o4
      obtain ⟨hb1, hb2⟩ := hb
      by_cases n0 : n = 0
      · subst n0
        go_enter Tryz.func36, Tryz.ntmps36
        go_wp2_with (first
          | (go_at_call 28; refine (spec_l1In_yes _ _ _ hb1 hb2 _).mono ?_; rintro e w' ⟨rfl, rfl⟩)
          | (go_at_call 41; refine (Hh.out _).mono ?_; rintro e w' ⟨rfl, rfl⟩))
        go_ret
        exact ⟨rfl, (Below.refl _ _).alloc (Nat.le_refl _) _⟩
      · have b0 : (n == 0) = false := by rw [beq_eq_false_iff_ne]; exact n0
        rw [decide_eq_false n0]
        clear n0
        go_enter Tryz.func36, Tryz.ntmps36
        go_wp2_with (first
          | (go_at_call 28; refine (spec_l1In_yes _ _ _ hb1 hb2 _).mono ?_; rintro e w' ⟨rfl, rfl⟩)
          | (go_at_call 41; refine (Hh.out _).mono ?_; rintro e w' ⟨rfl, rfl⟩))
        go_ret
        exact ⟨rfl, (Below.refl _ _).alloc (Nat.le_refl _) _⟩
    · rw [insOk_out hb]
      have Hh := Lib.hid hh; clear hh g o1 o4
      have hb' : o < 1 ∨ 18 < o := by omega
      clear hb
      go_enter Tryz.func36, Tryz.ntmps36
      go_wp2_with (first
        | (go_at_call 28; refine (spec_l1In_no _ _ _ hb' _).mono ?_; rintro e w' ⟨rfl, rfl⟩)
        | (go_at_call 41; refine (Hh.out _).mono ?_; rintro e w' ⟨rfl, rfl⟩))
      go_ret
      exact ⟨rfl, (Below.refl _ _).alloc (Nat.le_refl _) _⟩
  · rw [insOk_n o1 o4 g]
    simp only [g] at hh
    have Hh := Lib.hid hh; clear hh g o1 o4
    go_enter Tryz.func36, Tryz.ntmps36
    go_wp2_with (first
      | (go_at_call 28; refine (spec_l1In n 0 1000000 _).mono ?_; rintro e w' ⟨rfl, rfl⟩)
      | (go_at_call 41; refine (Hh.out _).mono ?_; rintro e w' ⟨rfl, rfl⟩))
    go_ret
    exact ⟨rfl, (Below.refl _ _).alloc (Nat.le_refl _) _⟩

/-- ContainsFunc over instructions that are read -/
theorem anyIns (v : Value) (l : List P2) (p : P2 → Bool) (g : Nat) (lb : Array Value) (eg : ∀ args w, (callFunc g args).run Tryz.prog w = .ok (.enter g args) w) (w : World) (hr : Rd w w.heap.size v l.length (pcells l))
    (hp : ∀ o n W, Below w.heap.size w W → Calls Tryz.prog g (#[.agg #[.int .i64 o, .int .i64 n]] ++ lb) W fun e w' => e = .returned (.bool (p ⟨o, n⟩)) ∧ Below W.heap.size W w') :
    Calls Tryz.prog 75 #[v, .func (.func g) #[] lb] w fun e w' => e = .returned (.bool (l.any p)) ∧ Below w.heap.size w w' := by
  have hl := hr.long
  obtain ⟨A, c, rfl, hn, hc, hcell⟩ := id hr
  rw [← anyq_list (q := fun j => p (l.getD j ⟨0, 0⟩)) (p := p) (l := l) (fun j hj => by simp [List.getD, List.getElem?_eq_getElem hj])]
  refine cfIns A l.length c (fun j => .int .i64 (l.getD j ⟨0, 0⟩).o) (fun j => .int .i64 (l.getD j ⟨0, 0⟩).n) _ g lb eg w hl (fun j hj => ?_) (fun j hj W hW => hp _ _ W hW)
  obtain ⟨b, o, hA, hbB, hs0, hs1⟩ := hr.two hj
  exact ⟨b, o, hA, hbB, by rw [hs0]; simp [List.getD, List.getElem?_eq_getElem hj], by rw [hs1]; simp [List.getD, List.getElem?_eq_getElem hj]⟩
theorem impl_isSizedCode1 (o n : Int) (w : World) : Calls Tryz.prog 76 #[.agg #[.int .i64 o, .int .i64 n]] w fun e w' => e = .returned (.bool (!insOk ⟨o, n⟩)) ∧ Below w.heap.size w w' := by
  go_enter Tryz.func76, Tryz.ntmps76
  go_wp2_with (go_at_call 31; refine (impl_isIns o n _).mono ?_; rintro e w' ⟨rfl, hb⟩)
  go_ret
  exact ⟨rfl, below_box hb⟩
end Go.Proofs.YtgkjakoagdkpcaaGreatDoor
set_option linter.unusedSimpArgs false
set_option linter.unusedVariables false
namespace Go.Proofs.YtgkjakoagdkpcaaGreatDoor
open Go.RowKit Go.WideShapes Go.ChangeShapes Go.Deep

theorem exists_list {α : Type} {Q : Nat → α → Prop} : ∀ n : Nat, (∀ i, i < n → ∃ r, Q i r) → ∃ l : List α, l.length = n ∧ ∀ i (h : i < l.length), Q i l[i] := by
  intro n
  induction n with
  | zero => intro _; exact ⟨[], rfl, fun i h => by simp at h⟩
  | succ n ih =>
    intro hq
    obtain ⟨l, hl, hall⟩ := ih (fun i hi => hq i (by omega))
    obtain ⟨r, hr⟩ := hq n (by omega)
    refine ⟨l ++ [r], by simp [hl], fun i h => ?_⟩
    by_cases hi : i < l.length
    · rw [List.getElem_append_left hi]; exact hall i hi
    · have : i = l.length := by simp at h; omega
      subst this
      rw [List.getElem_append_right (by omega)]
      simp [hl, hr]
theorem flat_length {α : Type} {size : Nat} {cellOf : α → List Value} (hs : ∀ r, (cellOf r).length = size) (l : List α) : (l.flatMap cellOf).length = l.length * size := by
  induction l with
  | nil => simp
  | cons r l ih => rw [List.flatMap_cons, List.length_append, ih, hs, List.length_cons, Nat.add_mul, Nat.one_mul, Nat.add_comm]
theorem flat_get {α : Type} {size : Nat} {cellOf : α → List Value} (hs : ∀ r, (cellOf r).length = size) (l : List α) (i k : Nat) (hi : i < l.length) (hk : k < size) : (l.flatMap cellOf)[i * size + k]? = (cellOf l[i])[k]? := by
  have e : l = l.take i ++ (l[i] :: l.drop (i + 1)) := by rw [← List.drop_eq_getElem_cons hi, List.take_append_drop]
  have hl : ((l.take i).flatMap cellOf).length = i * size := by rw [flat_length hs, List.length_take, Nat.min_eq_left (by omega)]
  have e2 : l.flatMap cellOf = (l.take i).flatMap cellOf ++ (cellOf l[i] ++ (l.drop (i + 1)).flatMap cellOf) := by
    conv => lhs; rw [e]
    rw [List.flatMap_append, List.flatMap_cons]
  rw [e2, List.getElem?_append_right (by omega), hl, show i * size + k - i * size = k by omega, List.getElem?_append_left (by rw [hs]; exact hk)]
theorem addr_add (b o j : Nat) : ((⟨b, o, none⟩ : Addr).add j) = ⟨b, o + j, none⟩ := by unfold Addr.add; split <;> simp_all

section
variable {H : Type} {enc : TypeId × Value → H} {P : Program} {w : World}
theorem open_slice_rd {α : Type} {size : Nat} {cellOf : α → List Value} {R : α → Prop} (hs : ∀ r, (cellOf r).length = size) (h0 : 0 < size) {t e : Nat} {v : Value} {d : DataW H} {p : List MemPlace}
    (ht : P.underlying t = some (.slice e)) (hC : P.cellsOf e = size) (hel : ∀ n cs x, DataW.trod enc P w 0 (fun _ => true) true n e cs = some x → ∃ r, cs = cellOf r ∧ R r)
    (h : ∃ fuel, DataW.trod enc P w 0 (fun _ => true) true fuel t [v] = some (d, p)) :
    ∃ l : List α, Rd w w.heap.size v l.length (l.flatMap cellOf) ∧ ∀ r ∈ l, R r := by
  obtain ⟨fuel, hf⟩ := h
  rcases open_slice ht hf with ⟨hcs, _⟩ | ⟨a, len, cap, m, n, D, Pl, hcs, _, hl, hm, hmm, _, hi⟩
  · simp at hcs
    subst hcs
    exact ⟨[], ⟨none, 0, rfl, Nat.le_refl _, by unfold maxLen; omega, fun j u hu => by simp at hu⟩, fun z hz => by simp at hz⟩
  · simp at hcs
    subst hcs
    rw [if_pos rfl] at hmm
    subst hmm
    obtain ⟨l, hll, hQ⟩ := exists_list (Q := fun i r => (∀ k, k < size → w.cell? ((a.add (i * size)).add k) = (cellOf r)[k]?) ∧ R r) len (fun i hi' => by
      obtain ⟨cs', hc, ht'⟩ := hi i (by omega)
      rw [hC] at hc
      obtain ⟨_, hcl, hat⟩ := World.cells?_some hc
      obtain ⟨r, rfl, hR⟩ := hel _ _ _ ht'
      exact ⟨r, hat, hR⟩)
    refine ⟨l, ⟨some a, m, by rw [hll], by omega, hm, fun j u hu => ?_⟩, fun r hr => ?_⟩
    · have hj : j < l.length * size := by
        have := (List.getElem?_eq_some_iff.1 hu).1
        rw [flat_length hs] at this; exact this
      have hi' : j / size < l.length := Nat.div_lt_of_lt_mul (by rw [Nat.mul_comm]; exact hj)
      have hpos : 0 < l.length := Nat.lt_of_le_of_lt (Nat.zero_le _) hi'
      have hk : j % size < size := Nat.mod_lt _ h0
      have hje : j / size * size + j % size = j := by rw [Nat.mul_comm]; exact Nat.div_add_mod j size
      have hcell := (hQ _ hi').1 _ hk
      have hcell0 := (hQ 0 hpos).1 0 h0
      obtain ⟨b, o, spot⟩ := a
      have hspot : spot = none := by
        have hx : (cellOf l[0])[0]? = some ((cellOf l[0])[0]'(by rw [hs]; exact h0)) := List.getElem?_eq_getElem _
        rw [hx] at hcell0
        have := World.cell?_spot hcell0
        simpa [Addr.add] using this
      subst hspot
      rw [addr_add, addr_add, Nat.add_assoc, hje, ← flat_get hs l _ _ hi' hk, hje, hu] at hcell
      exact ⟨b, o, rfl, World.block_lt_of_cell? _ _ hcell, hcell⟩
    · obtain ⟨i, hi', rfl⟩ := List.getElem_of_mem hr
      exact (hQ i hi').2
/-- a struct of three ints -/
theorem open_three {t : Nat} {f0 f1 f2 : Field} {n : Nat} {cs : List Value} {x : DataW H × List MemPlace} (ht : P.underlying t = some (.struct #[f0, f1, f2])) (hC : P.cellsOf t = 3) (ho : f0.offset = 0 ∧ f1.offset = 1 ∧ f2.offset = 2)
    (h0 : P.underlying f0.type = some (.int .i64) ∧ P.cellsOf f0.type = 1) (h1 : P.underlying f1.type = some (.int .i64) ∧ P.cellsOf f1.type = 1) (h2 : P.underlying f2.type = some (.int .i64) ∧ P.cellsOf f2.type = 1)
    (h : DataW.trod enc P w 0 (fun _ => true) true n t cs = some x) :
    ∃ a b c : Int, cs = [.int .i64 a, .int .i64 b, .int .i64 c] ∧ (Lit.int .i64 a).wf = true ∧ (Lit.int .i64 b).wf = true ∧ (Lit.int .i64 c).wf = true := by
  obtain ⟨xs, m, _, _, hcl, hxl, hf⟩ := DataW.trod_struct ht h
  rw [hC] at hcl
  match cs, hcl with
  | [c0, c1, c2], _ =>
    match xs, hxl with
    | [y0, y1, y2], _ =>
      have e0 := hf 0 f0 rfl
      have e1 := hf 1 f1 rfl
      have e2 := hf 2 f2 rfl
      rw [ho.1, h0.2] at e0
      rw [ho.2.1, h1.2] at e1
      rw [ho.2.2, h2.2] at e2
      obtain ⟨a, ha, _, wa⟩ := DataW.trod_int h0.1 (show _ = some y0 from e0)
      obtain ⟨b, hb, _, wb⟩ := DataW.trod_int h1.1 (show _ = some y1 from e1)
      obtain ⟨c, hc, _, wc⟩ := DataW.trod_int h2.1 (show _ = some y2 from e2)
      simp at ha hb hc
      exact ⟨a, b, c, by rw [ha, hb, hc], wa, wb, wc⟩
theorem icells_flat (k : IntKind) (l : List Int) : l.flatMap (fun z => [Value.int k z]) = icells k l := by
  induction l with
  | nil => rfl
  | cons z l ih => rw [List.flatMap_cons, ih]; rfl
theorem open_ints_at {t e : Nat} {k : IntKind} {v : Value} {x : DataW H × List MemPlace} {fuel : Nat} (ht : P.underlying t = some (.slice e)) (he : P.underlying e = some (.int k)) (hc : P.cellsOf e = 1)
    (h : DataW.trod enc P w 0 (fun _ => true) true fuel t [v] = some x) : ∃ zs : List Int, Rd w w.heap.size v zs.length (icells k zs) ∧ (∀ z ∈ zs, (Lit.int k z).wf = true) := by
  obtain ⟨l, hl, hw⟩ := open_slice_rd (size := 1) (cellOf := fun z => [Value.int k z]) (R := fun z => (Lit.int k z).wf = true) (fun _ => rfl) (by decide) ht hc (fun n cs x hx => by
    obtain ⟨a, hcs, _, wa⟩ := DataW.trod_int he hx
    exact ⟨a, hcs, wa⟩) ⟨fuel, h⟩
  rw [icells_flat] at hl
  exact ⟨l, hl, hw⟩
end
end Go.Proofs.YtgkjakoagdkpcaaGreatDoor
set_option linter.unusedSimpArgs false
set_option linter.unusedVariables false
set_option maxRecDepth 100000
namespace Go.Proofs.YtgkjakoagdkpcaaGreatDoor
open Go.RowKit Go.WideShapes Go.ChangeShapes Go.Deep

theorem bd_i64 {a : Int} (h : (Lit.int .i64 a).wf = true) : -9223372036854775808 ≤ a ∧ a ≤ 9223372036854775807 := by
  simp [Lit.wf, IntKind.min, IntKind.max, IntKind.bits, IntKind.signed] at h; omega
section
variable {H : Type} {enc : TypeId × Value → H} {P : Program} {w : World}
/-- a struct of two ints -/
theorem open_two {t : Nat} {f0 f1 : Field} {n : Nat} {cs : List Value} {x : DataW H × List MemPlace} (ht : P.underlying t = some (.struct #[f0, f1])) (hC : P.cellsOf t = 2) (ho : f0.offset = 0 ∧ f1.offset = 1)
    (h0 : P.underlying f0.type = some (.int .i64) ∧ P.cellsOf f0.type = 1) (h1 : P.underlying f1.type = some (.int .i64) ∧ P.cellsOf f1.type = 1)
    (h : DataW.trod enc P w 0 (fun _ => true) true n t cs = some x) :
    ∃ a b : Int, cs = [.int .i64 a, .int .i64 b] ∧ (Lit.int .i64 a).wf = true ∧ (Lit.int .i64 b).wf = true := by
  obtain ⟨xs, m, _, _, hcl, hxl, hf⟩ := DataW.trod_struct ht h
  rw [hC] at hcl
  match cs, hcl with
  | [c0, c1], _ =>
    match xs, hxl with
    | [y0, y1], _ =>
      have e0 := hf 0 f0 rfl
      have e1 := hf 1 f1 rfl
      rw [ho.1, h0.2] at e0
      rw [ho.2, h1.2] at e1
      obtain ⟨a, ha, _, wa⟩ := DataW.trod_int h0.1 (show _ = some y0 from e0)
      obtain ⟨b, hb, _, wb⟩ := DataW.trod_int h1.1 (show _ = some y1 from e1)
      simp at ha hb
      exact ⟨a, b, by rw [ha, hb], wa, wb⟩
end
def P2.ok (t : P2) : Prop := (-9223372036854775808 ≤ t.o ∧ t.o ≤ 9223372036854775807) ∧ (-9223372036854775808 ≤ t.n ∧ t.n ≤ 9223372036854775807)
def IsPair (w : World) (v : Value) : Prop := ∃ t : P2, v = .agg #[.int .i64 t.o, .int .i64 t.n] ∧ t.ok
def IsPairs (w : World) (v : Value) : Prop := ∃ l : List P2, Rd w w.heap.size v l.length (pcells l) ∧ ∀ t ∈ l, t.ok
def IsInts (w : World) (v : Value) : Prop := ∃ l : List Int, Rd w w.heap.size v l.length (icells .i64 l) ∧ ∀ n ∈ l, -9223372036854775808 ≤ n ∧ n ≤ 9223372036854775807
section
variable {H : Type} {enc : TypeId × Value → H} {w : World} {r : Reach} {b0 : Nat} {v : Value} {d : DataW H} {p : List MemPlace}
theorem open_intl (hv : Value.okWide Tryz.prog w r b0 29 v) (h : DataW.Trod enc Tryz.prog w 0 (fun _ => true) true 29 v d p) (_ : ∀ x ∈ p, x.block < w.heap.size) : IsInts w v := by
  obtain ⟨a0, len, cap, rfl⟩ := okWide_slice Tryz.underlying29 hv
  obtain ⟨fuel, hf⟩ := h
  obtain ⟨zs, hz, hw⟩ := open_ints_at Tryz.underlying29 Tryz.underlying3 (by kernel_rfl) hf
  exact ⟨zs, hz, fun n hn => bd_i64 (hw n hn)⟩
end
end Go.Proofs.YtgkjakoagdkpcaaGreatDoor
set_option linter.unusedSimpArgs false
set_option linter.unusedVariables false
set_option maxRecDepth 100000
namespace Go.Proofs.YtgkjakoagdkpcaaGreatDoor
open Go.RowKit Go.WideShapes Go.ChangeShapes Go.Deep

section
variable {H : Type} {enc : TypeId × Value → H} {P : Program} {w : World}
theorem open_slice_rl {α : Type} {R : World → Nat → Nat → List Value → α → Prop} {size : Nat} (h0 : 0 < size) {t e : Nat} {v : Value} {d : DataW H} {p : List MemPlace}
    (ht : P.underlying t = some (.slice e)) (hC : P.cellsOf e = size) (hel : ∀ n cs x, DataW.trod enc P w 0 (fun _ => true) true n e cs = some x → ∃ r, R w 0 w.heap.size cs r)
    (h : ∃ fuel, DataW.trod enc P w 0 (fun _ => true) true fuel t [v] = some (d, p)) : ∃ l : List α, RL R size w 0 w.heap.size v l := by
  obtain ⟨fuel, hf⟩ := h
  rcases open_slice ht hf with ⟨hcs, _⟩ | ⟨a, len, cap, m, n, D, Pl, hcs, _, hl, hm, hmm, _, hi⟩
  · simp at hcs
    subst hcs
    exact ⟨[], RL.nil⟩
  · simp at hcs
    subst hcs
    rw [if_pos rfl] at hmm
    subst hmm
    obtain ⟨l, hll, hQ⟩ := exists_list (Q := fun i r => ∃ cs : List Value, cs.length = size ∧ (∀ k, k < size → w.cell? ((a.add (i * size)).add k) = cs[k]?) ∧ R w 0 w.heap.size cs r) len (fun i hi' => by
      obtain ⟨cs', hc, ht'⟩ := hi i (by omega)
      rw [hC] at hc
      obtain ⟨_, hcl, hat⟩ := World.cells?_some hc
      obtain ⟨r, hR⟩ := hel _ _ _ ht'
      exact ⟨r, cs', hcl, hat, hR⟩)
    refine ⟨l, some a, m, by rw [hll], by omega, hm, fun i hi' => ?_⟩
    obtain ⟨cs, hcl, hat, hR⟩ := hQ i hi'
    obtain ⟨b, o, spot⟩ := a
    obtain ⟨cs0, hcl0, hat0, _⟩ := hQ 0 (by omega)
    have hcell00 := hat0 0 h0
    have hx0 : cs0[0]? = some (cs0[0]'(by omega)) := List.getElem?_eq_getElem _
    have hspot : spot = none := by
      rw [hx0] at hcell00
      have := World.cell?_spot hcell00
      simpa [Addr.add] using this
    subst hspot
    have hcell0 := hat 0 h0
    have hx : cs[0]? = some (cs[0]'(by omega)) := List.getElem?_eq_getElem _
    rw [hx, addr_add, addr_add] at hcell0
    refine ⟨b, o, cs, rfl, ⟨Nat.zero_le _, World.block_lt_of_cell? _ _ hcell0⟩, hcl, fun k u hu => ?_, hR⟩
    have hk : k < size := by rw [← hcl]; exact (List.getElem?_eq_some_iff.1 hu).1
    have := hat k hk
    rw [addr_add, addr_add, hu] at this
    exact this
theorem list1 {α : Type} {cs : List α} (h : cs.length = 1) : ∃ c0, cs = [c0] := by
  match cs, h with
  | [c0], _ => exact ⟨c0, rfl⟩
theorem open_st1 {t : Nat} {f0 : Field} {n : Nat} {cs : List Value} {x : DataW H × List MemPlace} (ht : P.underlying t = some (.struct #[f0])) (hC : P.cellsOf t = 1) (ho : f0.offset = 0) (h1 : P.cellsOf f0.type = 1)
    (h : DataW.trod enc P w 0 (fun _ => true) true n t cs = some x) :
    ∃ (c0 : Value) (y0 : DataW H × List MemPlace) (m : Nat), cs = [c0] ∧ DataW.trod enc P w 0 (fun _ => true) true m f0.type [c0] = some y0 := by
  obtain ⟨xs, m, _, _, hcl, hxl, hf⟩ := DataW.trod_struct ht h
  rw [hC] at hcl
  obtain ⟨c0, rfl⟩ := list1 hcl
  obtain ⟨y0, rfl⟩ := list1 (show xs.length = 1 from hxl)
  have o0 := ho; have k0 := h1
  have e0 := hf 0 f0 rfl
  rw [o0, k0] at e0
  exact ⟨c0, y0, m, rfl, e0⟩
theorem list4 {α : Type} {cs : List α} (h : cs.length = 4) : ∃ c0 c1 c2 c3, cs = [c0, c1, c2, c3] := by
  match cs, h with
  | [c0, c1, c2, c3], _ => exact ⟨c0, c1, c2, c3, rfl⟩
theorem open_st4 {t : Nat} {f0 f1 f2 f3 : Field} {n : Nat} {cs : List Value} {x : DataW H × List MemPlace} (ht : P.underlying t = some (.struct #[f0, f1, f2, f3])) (hC : P.cellsOf t = 4) (ho : f0.offset = 0 ∧ f1.offset = 1 ∧ f2.offset = 2 ∧ f3.offset = 3) (h1 : P.cellsOf f0.type = 1 ∧ P.cellsOf f1.type = 1 ∧ P.cellsOf f2.type = 1 ∧ P.cellsOf f3.type = 1)
    (h : DataW.trod enc P w 0 (fun _ => true) true n t cs = some x) :
    ∃ (c0 c1 c2 c3 : Value) (y0 y1 y2 y3 : DataW H × List MemPlace) (m : Nat), cs = [c0, c1, c2, c3] ∧ DataW.trod enc P w 0 (fun _ => true) true m f0.type [c0] = some y0 ∧ DataW.trod enc P w 0 (fun _ => true) true m f1.type [c1] = some y1 ∧ DataW.trod enc P w 0 (fun _ => true) true m f2.type [c2] = some y2 ∧ DataW.trod enc P w 0 (fun _ => true) true m f3.type [c3] = some y3 := by
  obtain ⟨xs, m, _, _, hcl, hxl, hf⟩ := DataW.trod_struct ht h
  rw [hC] at hcl
  obtain ⟨c0, c1, c2, c3, rfl⟩ := list4 hcl
  obtain ⟨y0, y1, y2, y3, rfl⟩ := list4 (show xs.length = 4 from hxl)
  obtain ⟨o0, o1, o2, o3⟩ := ho
  obtain ⟨k0, k1, k2, k3⟩ := h1
  have e0 := hf 0 f0 rfl
  rw [o0, k0] at e0
  have e1 := hf 1 f1 rfl
  rw [o1, k1] at e1
  have e2 := hf 2 f2 rfl
  rw [o2, k2] at e2
  have e3 := hf 3 f3 rfl
  rw [o3, k3] at e3
  exact ⟨c0, c1, c2, c3, y0, y1, y2, y3, m, rfl, e0, e1, e2, e3⟩
theorem list5 {α : Type} {cs : List α} (h : cs.length = 5) : ∃ c0 c1 c2 c3 c4, cs = [c0, c1, c2, c3, c4] := by
  match cs, h with
  | [c0, c1, c2, c3, c4], _ => exact ⟨c0, c1, c2, c3, c4, rfl⟩
theorem open_st5 {t : Nat} {f0 f1 f2 f3 f4 : Field} {n : Nat} {cs : List Value} {x : DataW H × List MemPlace} (ht : P.underlying t = some (.struct #[f0, f1, f2, f3, f4])) (hC : P.cellsOf t = 5) (ho : f0.offset = 0 ∧ f1.offset = 1 ∧ f2.offset = 2 ∧ f3.offset = 3 ∧ f4.offset = 4) (h1 : P.cellsOf f0.type = 1 ∧ P.cellsOf f1.type = 1 ∧ P.cellsOf f2.type = 1 ∧ P.cellsOf f3.type = 1 ∧ P.cellsOf f4.type = 1)
    (h : DataW.trod enc P w 0 (fun _ => true) true n t cs = some x) :
    ∃ (c0 c1 c2 c3 c4 : Value) (y0 y1 y2 y3 y4 : DataW H × List MemPlace) (m : Nat), cs = [c0, c1, c2, c3, c4] ∧ DataW.trod enc P w 0 (fun _ => true) true m f0.type [c0] = some y0 ∧ DataW.trod enc P w 0 (fun _ => true) true m f1.type [c1] = some y1 ∧ DataW.trod enc P w 0 (fun _ => true) true m f2.type [c2] = some y2 ∧ DataW.trod enc P w 0 (fun _ => true) true m f3.type [c3] = some y3 ∧ DataW.trod enc P w 0 (fun _ => true) true m f4.type [c4] = some y4 := by
  obtain ⟨xs, m, _, _, hcl, hxl, hf⟩ := DataW.trod_struct ht h
  rw [hC] at hcl
  obtain ⟨c0, c1, c2, c3, c4, rfl⟩ := list5 hcl
  obtain ⟨y0, y1, y2, y3, y4, rfl⟩ := list5 (show xs.length = 5 from hxl)
  obtain ⟨o0, o1, o2, o3, o4⟩ := ho
  obtain ⟨k0, k1, k2, k3, k4⟩ := h1
  have e0 := hf 0 f0 rfl
  rw [o0, k0] at e0
  have e1 := hf 1 f1 rfl
  rw [o1, k1] at e1
  have e2 := hf 2 f2 rfl
  rw [o2, k2] at e2
  have e3 := hf 3 f3 rfl
  rw [o3, k3] at e3
  have e4 := hf 4 f4 rfl
  rw [o4, k4] at e4
  exact ⟨c0, c1, c2, c3, c4, y0, y1, y2, y3, y4, m, rfl, e0, e1, e2, e3, e4⟩
theorem list7 {α : Type} {cs : List α} (h : cs.length = 7) : ∃ c0 c1 c2 c3 c4 c5 c6, cs = [c0, c1, c2, c3, c4, c5, c6] := by
  match cs, h with
  | [c0, c1, c2, c3, c4, c5, c6], _ => exact ⟨c0, c1, c2, c3, c4, c5, c6, rfl⟩
theorem open_st7 {t : Nat} {f0 f1 f2 f3 f4 f5 f6 : Field} {n : Nat} {cs : List Value} {x : DataW H × List MemPlace} (ht : P.underlying t = some (.struct #[f0, f1, f2, f3, f4, f5, f6])) (hC : P.cellsOf t = 7) (ho : f0.offset = 0 ∧ f1.offset = 1 ∧ f2.offset = 2 ∧ f3.offset = 3 ∧ f4.offset = 4 ∧ f5.offset = 5 ∧ f6.offset = 6) (h1 : P.cellsOf f0.type = 1 ∧ P.cellsOf f1.type = 1 ∧ P.cellsOf f2.type = 1 ∧ P.cellsOf f3.type = 1 ∧ P.cellsOf f4.type = 1 ∧ P.cellsOf f5.type = 1 ∧ P.cellsOf f6.type = 1)
    (h : DataW.trod enc P w 0 (fun _ => true) true n t cs = some x) :
    ∃ (c0 c1 c2 c3 c4 c5 c6 : Value) (y0 y1 y2 y3 y4 y5 y6 : DataW H × List MemPlace) (m : Nat), cs = [c0, c1, c2, c3, c4, c5, c6] ∧ DataW.trod enc P w 0 (fun _ => true) true m f0.type [c0] = some y0 ∧ DataW.trod enc P w 0 (fun _ => true) true m f1.type [c1] = some y1 ∧ DataW.trod enc P w 0 (fun _ => true) true m f2.type [c2] = some y2 ∧ DataW.trod enc P w 0 (fun _ => true) true m f3.type [c3] = some y3 ∧ DataW.trod enc P w 0 (fun _ => true) true m f4.type [c4] = some y4 ∧ DataW.trod enc P w 0 (fun _ => true) true m f5.type [c5] = some y5 ∧ DataW.trod enc P w 0 (fun _ => true) true m f6.type [c6] = some y6 := by
  obtain ⟨xs, m, _, _, hcl, hxl, hf⟩ := DataW.trod_struct ht h
  rw [hC] at hcl
  obtain ⟨c0, c1, c2, c3, c4, c5, c6, rfl⟩ := list7 hcl
  obtain ⟨y0, y1, y2, y3, y4, y5, y6, rfl⟩ := list7 (show xs.length = 7 from hxl)
  obtain ⟨o0, o1, o2, o3, o4, o5, o6⟩ := ho
  obtain ⟨k0, k1, k2, k3, k4, k5, k6⟩ := h1
  have e0 := hf 0 f0 rfl
  rw [o0, k0] at e0
  have e1 := hf 1 f1 rfl
  rw [o1, k1] at e1
  have e2 := hf 2 f2 rfl
  rw [o2, k2] at e2
  have e3 := hf 3 f3 rfl
  rw [o3, k3] at e3
  have e4 := hf 4 f4 rfl
  rw [o4, k4] at e4
  have e5 := hf 5 f5 rfl
  rw [o5, k5] at e5
  have e6 := hf 6 f6 rfl
  rw [o6, k6] at e6
  exact ⟨c0, c1, c2, c3, c4, c5, c6, y0, y1, y2, y3, y4, y5, y6, m, rfl, e0, e1, e2, e3, e4, e5, e6⟩
theorem list11 {α : Type} {cs : List α} (h : cs.length = 11) : ∃ c0 c1 c2 c3 c4 c5 c6 c7 c8 c9 c10, cs = [c0, c1, c2, c3, c4, c5, c6, c7, c8, c9, c10] := by
  match cs, h with
  | [c0, c1, c2, c3, c4, c5, c6, c7, c8, c9, c10], _ => exact ⟨c0, c1, c2, c3, c4, c5, c6, c7, c8, c9, c10, rfl⟩
theorem open_st11 {t : Nat} {f0 f1 f2 f3 f4 f5 f6 f7 f8 f9 f10 : Field} {n : Nat} {cs : List Value} {x : DataW H × List MemPlace} (ht : P.underlying t = some (.struct #[f0, f1, f2, f3, f4, f5, f6, f7, f8, f9, f10])) (hC : P.cellsOf t = 11) (ho : f0.offset = 0 ∧ f1.offset = 1 ∧ f2.offset = 2 ∧ f3.offset = 3 ∧ f4.offset = 4 ∧ f5.offset = 5 ∧ f6.offset = 6 ∧ f7.offset = 7 ∧ f8.offset = 8 ∧ f9.offset = 9 ∧ f10.offset = 10) (h1 : P.cellsOf f0.type = 1 ∧ P.cellsOf f1.type = 1 ∧ P.cellsOf f2.type = 1 ∧ P.cellsOf f3.type = 1 ∧ P.cellsOf f4.type = 1 ∧ P.cellsOf f5.type = 1 ∧ P.cellsOf f6.type = 1 ∧ P.cellsOf f7.type = 1 ∧ P.cellsOf f8.type = 1 ∧ P.cellsOf f9.type = 1 ∧ P.cellsOf f10.type = 1)
    (h : DataW.trod enc P w 0 (fun _ => true) true n t cs = some x) :
    ∃ (c0 c1 c2 c3 c4 c5 c6 c7 c8 c9 c10 : Value) (y0 y1 y2 y3 y4 y5 y6 y7 y8 y9 y10 : DataW H × List MemPlace) (m : Nat), cs = [c0, c1, c2, c3, c4, c5, c6, c7, c8, c9, c10] ∧ DataW.trod enc P w 0 (fun _ => true) true m f0.type [c0] = some y0 ∧ DataW.trod enc P w 0 (fun _ => true) true m f1.type [c1] = some y1 ∧ DataW.trod enc P w 0 (fun _ => true) true m f2.type [c2] = some y2 ∧ DataW.trod enc P w 0 (fun _ => true) true m f3.type [c3] = some y3 ∧ DataW.trod enc P w 0 (fun _ => true) true m f4.type [c4] = some y4 ∧ DataW.trod enc P w 0 (fun _ => true) true m f5.type [c5] = some y5 ∧ DataW.trod enc P w 0 (fun _ => true) true m f6.type [c6] = some y6 ∧ DataW.trod enc P w 0 (fun _ => true) true m f7.type [c7] = some y7 ∧ DataW.trod enc P w 0 (fun _ => true) true m f8.type [c8] = some y8 ∧ DataW.trod enc P w 0 (fun _ => true) true m f9.type [c9] = some y9 ∧ DataW.trod enc P w 0 (fun _ => true) true m f10.type [c10] = some y10 := by
  obtain ⟨xs, m, _, _, hcl, hxl, hf⟩ := DataW.trod_struct ht h
  rw [hC] at hcl
  obtain ⟨c0, c1, c2, c3, c4, c5, c6, c7, c8, c9, c10, rfl⟩ := list11 hcl
  obtain ⟨y0, y1, y2, y3, y4, y5, y6, y7, y8, y9, y10, rfl⟩ := list11 (show xs.length = 11 from hxl)
  obtain ⟨o0, o1, o2, o3, o4, o5, o6, o7, o8, o9, o10⟩ := ho
  obtain ⟨k0, k1, k2, k3, k4, k5, k6, k7, k8, k9, k10⟩ := h1
  have e0 := hf 0 f0 rfl
  rw [o0, k0] at e0
  have e1 := hf 1 f1 rfl
  rw [o1, k1] at e1
  have e2 := hf 2 f2 rfl
  rw [o2, k2] at e2
  have e3 := hf 3 f3 rfl
  rw [o3, k3] at e3
  have e4 := hf 4 f4 rfl
  rw [o4, k4] at e4
  have e5 := hf 5 f5 rfl
  rw [o5, k5] at e5
  have e6 := hf 6 f6 rfl
  rw [o6, k6] at e6
  have e7 := hf 7 f7 rfl
  rw [o7, k7] at e7
  have e8 := hf 8 f8 rfl
  rw [o8, k8] at e8
  have e9 := hf 9 f9 rfl
  rw [o9, k9] at e9
  have e10 := hf 10 f10 rfl
  rw [o10, k10] at e10
  exact ⟨c0, c1, c2, c3, c4, c5, c6, c7, c8, c9, c10, y0, y1, y2, y3, y4, y5, y6, y7, y8, y9, y10, m, rfl, e0, e1, e2, e3, e4, e5, e6, e7, e8, e9, e10⟩
end
end Go.Proofs.YtgkjakoagdkpcaaGreatDoor
set_option linter.unusedSimpArgs false
set_option linter.unusedVariables false
set_option maxRecDepth 100000
namespace Go.Proofs.YtgkjakoagdkpcaaGreatDoor
open Go.RowKit Go.Shelf

set_option maxHeartbeats 3200000 in
theorem impl_isSizedCode (cs : List Value) (c : CodeM) (w : World) (hr : RCode w 0 w.heap.size cs c) :
    Calls Tryz.prog 47 #[.agg cs.toArray] w fun e w' => e = .returned (.bool (codeOk c)) ∧ Below w.heap.size w w' := by
  obtain ⟨v2, v3, v4, rfl, h2, h3, h4⟩ := hr
  obtain ⟨m0, m1, l2, l3, l4⟩ := c
  dsimp only at *
  have n2 := h2.long; have n3 := h3.long; have n4 := h4.long
  obtain ⟨A2, c2, rfl⟩ := h2.form
  obtain ⟨A3, c3, rfl⟩ := h3.form
  obtain ⟨A4, c4, rfl⟩ := h4.form
  have H3 := hide h3; clear h2 h3 h4
  unfold codeOk
  dsimp only
  have hb := (Below.refl w.heap.size w).alloc (Nat.le_refl _) (.cells #[.int .i64 m0, .int .i64 m1, .slice A2 l2.length c2, .slice A3 l3.length c3, .slice A4 l4.length c4] 39)
  have Hb := hide hb; clear hb
  by_cases g1 : 0 ≤ m0 ∧ m0 ≤ 2
  case neg =>
    have g1' : m0 < 0 ∨ 2 < m0 := by omega
    rw [inB_no g1', Bool.false_and]
    clear g1
    go_enter Tryz.func47, Tryz.ntmps47
    go_wp2_with (go_at_call 24; refine (impl_within_no _ _ _ g1' _).mono ?_; rintro e w' ⟨rfl, rfl⟩)
    go_ret
    exact ⟨rfl, Hb.out⟩
  rw [inB_yes g1.1 g1.2, Bool.true_and]
  obtain ⟨g1a, g1b⟩ := g1
  by_cases g2 : m0 ≤ m1 ∧ m1 ≤ 6
  case neg =>
    have g2' : m1 < m0 ∨ 6 < m1 := by omega
    rw [inB_no g2', Bool.false_and]
    clear g2
    go_enter Tryz.func47, Tryz.ntmps47
    go_wp2_with (go_at_call 24; first
      | ((with_reducible refine (impl_within_yes m0 0 2 g1a g1b _).mono ?_); rintro e w' ⟨rfl, rfl⟩)
      | ((with_reducible refine (impl_within_no m1 m0 6 g2' _).mono ?_); rintro e w' ⟨rfl, rfl⟩))
    go_ret
    exact ⟨rfl, Hb.out⟩
  rw [inB_yes g2.1 g2.2, Bool.true_and]
  obtain ⟨g2a, g2b⟩ := g2
  by_cases g3 : l2.length ≤ 4
  case neg =>
    rw [decide_eq_false g3, Bool.false_and]
    go_enter Tryz.func47, Tryz.ntmps47
    go_wp2_with (go_at_call 24; first
      | ((with_reducible refine (impl_within_yes m0 0 2 g1a g1b _).mono ?_); rintro e w' ⟨rfl, rfl⟩)
      | ((with_reducible refine (impl_within_yes m1 m0 6 g2a g2b _).mono ?_); rintro e w' ⟨rfl, rfl⟩))
    go_ret
    exact ⟨rfl, Hb.out⟩
  rw [decide_eq_true g3, Bool.true_and]
  by_cases g4 : (1 : Int) ≤ l3.length ∧ (l3.length : Int) ≤ 300
  case neg =>
    have g4' : (l3.length : Int) < 1 ∨ 300 < (l3.length : Int) := by omega
    rw [inB_no g4', Bool.false_and]
    clear g4
    go_enter Tryz.func47, Tryz.ntmps47
    go_wp2_with (go_at_call 24; first
      | ((with_reducible refine (impl_within_yes m0 0 2 g1a g1b _).mono ?_); rintro e w' ⟨rfl, rfl⟩)
      | ((with_reducible refine (impl_within_yes m1 m0 6 g2a g2b _).mono ?_); rintro e w' ⟨rfl, rfl⟩)
      | ((with_reducible refine (impl_within_no _ 1 300 g4' _).mono ?_); rintro e w' ⟨rfl, rfl⟩))
    go_ret
    exact ⟨rfl, Hb.out⟩
  rw [inB_yes g4.1 g4.2, Bool.true_and]
  obtain ⟨g4a, g4b⟩ := g4
  by_cases g5 : l4.length ≤ 300
  case neg =>
    rw [decide_eq_false g5, Bool.false_and]
    go_enter Tryz.func47, Tryz.ntmps47
    go_wp2_with (go_at_call 24; first
      | ((with_reducible refine (impl_within_yes m0 0 2 g1a g1b _).mono ?_); rintro e w' ⟨rfl, rfl⟩)
      | ((with_reducible refine (impl_within_yes m1 m0 6 g2a g2b _).mono ?_); rintro e w' ⟨rfl, rfl⟩)
      | ((with_reducible refine (impl_within_yes _ 1 300 g4a g4b _).mono ?_); rintro e w' ⟨rfl, rfl⟩))
    go_ret
    exact ⟨rfl, Hb.out⟩
  rw [decide_eq_true g5, Bool.true_and]
  have hany := anyIns (.slice A3 l3.length c3) l3 (fun t => !insOk t) 76 #[] (enters_of Tryz.func76 (by kernel_rfl) rfl) _ ((H3.out.here Hb.out).rd) (fun o n W _ => impl_isSizedCode1 o n W)
  have hall : (l3.any fun t => !insOk t) = !(l3.all insOk) := by rw [List.all_eq_not_any_not, Bool.not_not]
  rw [hall] at hany
  generalize l3.all insOk = R at *
  have Hany := hide hany; clear hany hall
  go_enter Tryz.func47, Tryz.ntmps47
  go_wp2_with (first
    | (go_at_call 24; first
      | ((with_reducible refine (impl_within_yes m0 0 2 g1a g1b _).mono ?_); rintro e w' ⟨rfl, rfl⟩)
      | ((with_reducible refine (impl_within_yes m1 m0 6 g2a g2b _).mono ?_); rintro e w' ⟨rfl, rfl⟩)
      | ((with_reducible refine (impl_within_yes _ 1 300 g4a g4b _).mono ?_); rintro e w' ⟨rfl, rfl⟩))
    | (go_at_call 75; refine (Hany.out).mono ?_; rintro e w1 ⟨rfl, hb1⟩))
  go_ret
  exact ⟨retB (by simp), Hb.out.trans (hb1.mono Hb.out.size)⟩

theorem impl_isSized1 (cs : List Value) (c : CodeM) (w : World) (hr : RCode w 0 w.heap.size cs c) :
    Calls Tryz.prog 46 #[.agg cs.toArray] w fun e w' => e = .returned (.bool (!codeOk c)) ∧ Below w.heap.size w w' := by
  have hr' := hr
  obtain ⟨v2, v3, v4, rfl, h2, h3, h4⟩ := hr
  have hb := (Below.refl w.heap.size w).alloc (Nat.le_refl _) (.cells #[.int .i64 c.qParams, .int .i64 c.qVars, v2, v3, v4] 39)
  have hx := RCode_stable.here hr' hb
  have hc := impl_isSizedCode _ c _ hx
  generalize codeOk c = R at *
  have Hc := hide hc; have Hb := hide hb; clear hc hb hx hr' h2 h3 h4
  go_enter Tryz.func46, Tryz.ntmps46
  go_wp2_with (go_at_call 47; refine (Hc.out).mono ?_; rintro e w1 ⟨rfl, hb1⟩)
  go_ret
  exact ⟨rfl, Hb.out.trans (hb1.mono Hb.out.size)⟩

theorem RL.funs {α : Type} {R : World → Nat → Nat → List Value → α → Prop} {size : Nat} {w : World} {lo hi c : Nat} {A : Option Addr} {l : List α} (h : RL R size w lo hi (.slice A l.length c) l) :
    ∃ f : Nat → List Value, ∀ i (hi' : i < l.length), ∃ b o, A = some ⟨b, o, none⟩ ∧ (lo ≤ b ∧ b < hi) ∧ (f i).length = size ∧ (∀ k u, (f i)[k]? = some u → w.cell? ⟨b, o + i * size + k, none⟩ = some u) ∧ R w lo hi (f i) l[i] := by
  refine Classical.axiomOfChoice (r := fun i cs => ∀ (hi' : i < l.length), ∃ b o, A = some ⟨b, o, none⟩ ∧ (lo ≤ b ∧ b < hi) ∧ cs.length = size ∧ (∀ k u, cs[k]? = some u → w.cell? ⟨b, o + i * size + k, none⟩ = some u) ∧ R w lo hi cs l[i]) (fun i => ?_)
  by_cases hi' : i < l.length
  · obtain ⟨b, o, cs, h1, h2, h3, h4, h5⟩ := h.at_ hi'
    exact ⟨cs, fun _ => ⟨b, o, h1, h2, h3, h4, h5⟩⟩
  · exact ⟨[], fun h => absurd h hi'⟩
/-- ContainsFunc over codes that are read -/
theorem anyCode (v : Value) (l : List CodeM) (p : CodeM → Bool) (g : Nat) (lb : Array Value) (eg : ∀ args w, (callFunc g args).run Tryz.prog w = .ok (.enter g args) w) (w : World) (hr : RL RCode 5 w 0 w.heap.size v l)
    (hp : ∀ cs c W, Below w.heap.size w W → RCode W 0 W.heap.size cs c → Calls Tryz.prog g (#[.agg cs.toArray] ++ lb) W fun e w' => e = .returned (.bool (p c)) ∧ Below W.heap.size W w') :
    Calls Tryz.prog 45 #[v, .func (.func g) #[] lb] w fun e w' => e = .returned (.bool (l.any p)) ∧ Below w.heap.size w w' := by
  have hl := hr.long
  obtain ⟨A, c, rfl⟩ := hr.form
  obtain ⟨f, hf⟩ := hr.funs
  rw [← anyq_list (q := fun j => p (l.getD j ⟨0, 0, [], [], []⟩)) (p := p) (l := l) (fun j hj => by simp [List.getD, List.getElem?_eq_getElem hj])]
  refine cfCode A l.length c (fun j => (f j).getD 0 (.bool false)) (fun j => (f j).getD 1 (.bool false)) (fun j => (f j).getD 2 (.bool false)) (fun j => (f j).getD 3 (.bool false)) (fun j => (f j).getD 4 (.bool false)) _ g lb eg w hl (fun j hj => ?_) (fun j hj W hW => ?_)
  · obtain ⟨b, o, hA, hb, hlen, hcell, _⟩ := hf j hj
    obtain ⟨c0, c1, c2, c3, c4, hcs⟩ := list5 hlen
    refine ⟨b, o, hA, hb.2, ?_, ?_, ?_, ?_, ?_⟩
    · exact hcell 0 _ (by simp [hcs])
    · exact hcell 1 _ (by simp [hcs])
    · exact hcell 2 _ (by simp [hcs])
    · exact hcell 3 _ (by simp [hcs])
    · exact hcell 4 _ (by simp [hcs])
  · obtain ⟨b, o, hA, hb, hlen, hcell, hR⟩ := hf j hj
    have := hp (f j) l[j] W hW (RCode_stable.here hR hW)
    obtain ⟨c0, c1, c2, c3, c4, hcs⟩ := list5 hlen
    rw [hcs] at this ⊢
    have e : l.getD j ⟨0, 0, [], [], []⟩ = l[j] := by simp [List.getD, List.getElem?_eq_getElem hj]
    rw [e]
    exact this
set_option maxHeartbeats 1600000 in
theorem impl_isSized (cs : List Value) (x : ImageM) (w : World) (hr : RImage w 0 w.heap.size cs x) :
    Calls Tryz.prog 23 #[.agg cs.toArray] w fun e w' => e = .returned (.bool (sizedB x.qCodes)) ∧ Below w.heap.size w w' := by
  obtain ⟨v0, rfl, h0⟩ := hr
  obtain ⟨l⟩ := x
  dsimp only at *
  have hl := h0.long
  obtain ⟨A, c, rfl⟩ := h0.form
  have hb := (Below.refl w.heap.size w).alloc (Nat.le_refl _) (.cells #[.slice A l.length c] 26)
  have h0' := h0.here RCode_stable hb
  unfold sizedB
  by_cases g : (1 : Int) ≤ l.length ∧ (l.length : Int) ≤ 5
  · rw [inB_yes g.1 g.2, Bool.true_and]
    obtain ⟨ga, gb⟩ := g
    have hany := anyCode (.slice A l.length c) l (fun t => !codeOk t) 46 #[] (enters_of Tryz.func46 (by kernel_rfl) rfl) _ h0' (fun cs c W _ h => impl_isSized1 cs c W h)
    have hall : (l.any fun t => !codeOk t) = !(l.all codeOk) := by rw [List.all_eq_not_any_not, Bool.not_not]
    rw [hall] at hany
    generalize l.all codeOk = R at *
    have Hany := hide hany; have Hb := hide hb; clear hany hall hb h0 h0'
    go_enter Tryz.func23, Tryz.ntmps23
    go_wp2_with (first
      | (go_at_call 24; refine (impl_within_yes _ _ _ ga gb _).mono ?_; rintro e w' ⟨rfl, rfl⟩)
      | (go_at_call 45; refine (Hany.out).mono ?_; rintro e w1 ⟨rfl, hb1⟩))
    go_ret
    exact ⟨retB (by simp), Hb.out.trans (hb1.mono Hb.out.size)⟩
  · have g' : (l.length : Int) < 1 ∨ 5 < (l.length : Int) := by omega
    rw [inB_no g', Bool.false_and]
    have Hb := hide hb; clear hb h0 h0' g
    go_enter Tryz.func23, Tryz.ntmps23
    go_wp2_with (go_at_call 24; refine (impl_within_no _ _ _ g' _).mono ?_; rintro e w' ⟨rfl, rfl⟩)
    go_ret
    exact ⟨rfl, Hb.out⟩
end Go.Proofs.YtgkjakoagdkpcaaGreatDoor
