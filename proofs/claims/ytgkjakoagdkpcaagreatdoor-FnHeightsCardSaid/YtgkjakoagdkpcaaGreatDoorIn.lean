
/- within, l1In: what the Go text returns. No condition. -/
import Derived.Test.YtgkjakoagdkpcaaGreatDoorNst
import Derived.Test.YtgkjakoagdkpcaaGreatDoorChecked
set_option linter.unusedSimpArgs false
set_option linter.unusedVariables false
namespace Go.Proofs.YtgkjakoagdkpcaaGreatDoor
open Go.RowKit

theorem spec_l1In_yes (a b c : Int) (h1 : b ≤ a) (h2 : a ≤ c) (w : World) : Calls Tryz.prog 28 #[.int .i64 a, .int .i64 b, .int .i64 c] w fun e w' => e = .returned (.bool true) ∧ w = w' := by
  go_enter Tryz.func28, Tryz.ntmps28
  go_wp2
  go_ret
  exact ⟨rfl, rfl⟩
theorem spec_l1In_no (a b c : Int) (h : a < b ∨ c < a) (w : World) : Calls Tryz.prog 28 #[.int .i64 a, .int .i64 b, .int .i64 c] w fun e w' => e = .returned (.bool false) ∧ w = w' := by
  by_cases h1 : a < b
  · clear h
    go_enter Tryz.func28, Tryz.ntmps28
    go_wp2
    go_ret
    exact ⟨rfl, rfl⟩
  · have h2 : decide (a ≤ c) = false := decide_eq_false (by omega)
    clear h
    go_enter Tryz.func28, Tryz.ntmps28
    go_wp2
    go_ret
    exact ⟨rfl, rfl⟩
theorem spec_l1In (a b c : Int) (w : World) : Calls Tryz.prog 28 #[.int .i64 a, .int .i64 b, .int .i64 c] w fun e w' => e = .returned (.bool (inB a b c)) ∧ w = w' := by
  by_cases h : b ≤ a ∧ a ≤ c
  · rw [inB_yes h.1 h.2]; exact spec_l1In_yes a b c h.1 h.2 w
  · rw [inB_no (by omega)]; exact spec_l1In_no a b c (by omega) w
theorem impl_within_yes (a b c : Int) (h1 : b ≤ a) (h2 : a ≤ c) (w : World) : Calls Tryz.prog 24 #[.int .i64 a, .int .i64 b, .int .i64 c] w fun e w' => e = .returned (.bool true) ∧ w = w' := by
  go_enter Tryz.func24, Tryz.ntmps24
  go_wp2
  go_ret
  exact ⟨rfl, rfl⟩
theorem impl_within_no (a b c : Int) (h : a < b ∨ c < a) (w : World) : Calls Tryz.prog 24 #[.int .i64 a, .int .i64 b, .int .i64 c] w fun e w' => e = .returned (.bool false) ∧ w = w' := by
  by_cases h1 : a < b
  · clear h
    go_enter Tryz.func24, Tryz.ntmps24
    go_wp2
    go_ret
    exact ⟨rfl, rfl⟩
  · have h2 : decide (a ≤ c) = false := decide_eq_false (by omega)
    clear h
    go_enter Tryz.func24, Tryz.ntmps24
    go_wp2
    go_ret
    exact ⟨rfl, rfl⟩
theorem impl_within (a b c : Int) (w : World) : Calls Tryz.prog 24 #[.int .i64 a, .int .i64 b, .int .i64 c] w fun e w' => e = .returned (.bool (inB a b c)) ∧ w = w' := by
  by_cases h : b ≤ a ∧ a ≤ c
  · rw [inB_yes h.1 h.2]; exact impl_within_yes a b c h.1 h.2 w
  · rw [inB_no (by omega)]; exact impl_within_no a b c (by omega) w
end Go.Proofs.YtgkjakoagdkpcaaGreatDoor
set_option linter.unusedSimpArgs false
set_option linter.unusedVariables false
namespace Go.Proofs.YtgkjakoagdkpcaaGreatDoor
open Go.RowKit

def ixq (q : Nat → Bool) : Nat → Nat → Int
  | _, 0 => -1
  | k, m + 1 => if q k = true then (k : Int) else ixq q (k + 1) m
theorem ixq_yes {q : Nat → Bool} {k n : Nat} (hk : k < n) (h : q k = true) : ixq q k (n - k) = k := by
  rw [show n - k = (n - (k + 1)) + 1 by omega]; simp only [ixq]; rw [if_pos h]
theorem ixq_no {q : Nat → Bool} {k n : Nat} (hk : k < n) (h : q k = false) : ixq q k (n - k) = ixq q (k + 1) (n - (k + 1)) := by
  rw [show n - k = (n - (k + 1)) + 1 by omega]; simp only [ixq]; rw [if_neg (by simp [h])]
def anyq (q : Nat → Bool) (n : Nat) : Bool := decide (0 ≤ ixq q 0 n)
theorem ixq_pos (q : Nat → Bool) : ∀ (m k : Nat), 0 ≤ ixq q k m ↔ ∃ j, k ≤ j ∧ j < k + m ∧ q j = true := by
  intro m
  induction m with
  | zero => intro k; simp only [ixq]; constructor
            · intro h; omega
            · rintro ⟨j, h1, h2, _⟩; omega
  | succ m ih =>
    intro k
    simp only [ixq]
    by_cases h : q k = true
    · rw [if_pos h]; constructor
      · intro _; exact ⟨k, by omega, by omega, h⟩
      · intro _; omega
    · rw [if_neg h, ih]; constructor
      · rintro ⟨j, h1, h2, h3⟩; exact ⟨j, by omega, by omega, h3⟩
      · rintro ⟨j, h1, h2, h3⟩
        by_cases e : j = k
        · subst e; exact absurd h3 h
        · exact ⟨j, by omega, by omega, h3⟩
theorem anyq_list {α : Type} {q : Nat → Bool} {p : α → Bool} {l : List α} (h : ∀ j (hj : j < l.length), q j = p l[j]) : anyq q l.length = l.any p := by
  unfold anyq
  rw [Bool.eq_iff_iff, decide_eq_true_eq, ixq_pos, List.any_eq_true]
  constructor
  · rintro ⟨j, _, h2, h3⟩
    exact ⟨l[j]'(by omega), List.getElem_mem _, by rw [← h j (by omega)]; exact h3⟩
  · rintro ⟨x, hx, hp⟩
    obtain ⟨j, hj, rfl⟩ := List.getElem_of_mem hx
    exact ⟨j, by omega, by omega, by rw [h j hj]; exact hp⟩
end Go.Proofs.YtgkjakoagdkpcaaGreatDoor
set_option linter.unusedSimpArgs false
set_option linter.unusedVariables false
set_option maxRecDepth 100000
namespace Go.Proofs.YtgkjakoagdkpcaaGreatDoor
open Go.RowKit

set_option maxHeartbeats 1000000 in
theorem ixfI (A : Option Addr) (n c : Nat) (e0 : Nat → Value) (q : Nat → Bool) (g : Nat) (lb : Array Value) (eg : ∀ args w, (callFunc g args).run Tryz.prog w = .ok (.enter g args) w) (w : World) (hn : n ≤ 9223372036854775807)
    (hc : ∀ j, j < n → ∃ b o, A = some ⟨b, o, none⟩ ∧ b < w.heap.size ∧ w.cell? ⟨b, o + j, none⟩ = some (e0 j))
    (hp : ∀ j, j < n → ∀ W, Below w.heap.size w W → Calls Tryz.prog g (#[(e0 j)] ++ lb) W fun e w' => e = .returned (.bool (q j)) ∧ Below W.heap.size W w') :
    Calls Tryz.prog 78 #[.slice A n c, .func (.func g) #[] lb] w fun e w' => e = .returned (.int .i64 (ixq q 0 n)) ∧ Below w.heap.size w w' := by
  have Hc := hide hc; have Hp := hide hp; clear hc hp
  go_enter Tryz.func78, Tryz.ntmps78
  go_wp2
  go_loopw [8] (fun i wr => ∃ k : Nat, k ≤ n ∧ i = .int .i64 k ∧ ixq q k (n - k) = ixq q 0 n ∧ Below w.heap.size w wr) (fun i _ => n - (intOf i).toNat)
  case atStart => exact ⟨0, by omega, rfl, rfl, Below.refl _ _⟩
  case round =>
    obtain ⟨k, hk, rfl, hix, hb⟩ := hrel
    by_cases hlt : k < n
    · obtain ⟨b, o, rfl, hbB, s0⟩ := Hc.out k hlt
      have hcall := Hp.out k hlt wr hb
      have hs0 := (hb.cell (p := ⟨b, o + k, none⟩) hbB).trans s0
      have hy := fun h => ixq_yes (q := q) (n := n) hlt h
      have hn := fun h => ixq_no (q := q) (n := n) hlt h
      rw [hix] at hy hn
      have Hb := hide hb
      clear hb s0 Hc Hp hix
      cases hh : q k
      · have Hn := hide (hn hh); clear hy hn
        rw [hh] at hcall
        have Hcall := hide hcall; clear hcall hh
        go_wp2_with fail
        refine (Hcall.out).mono ?_
        rintro e w2 ⟨rfl, hb2⟩
        go_wp2
        go_roundw
        case rel => exact ⟨k + 1, by omega, by go_num, Hn.out.symm, Hb.out.trans (hb2.mono Hb.out.size)⟩
        case measure => simp [intOf]; omega
      · have Hy := hide (hy hh); clear hy hn
        rw [hh] at hcall
        have Hcall := hide hcall; clear hcall hh
        go_wp2_with fail
        refine (Hcall.out).mono ?_
        rintro e w2 ⟨rfl, hb2⟩
        go_wp2
        go_ret
        exact ⟨retI Hy.out.symm, Hb.out.trans (hb2.mono Hb.out.size)⟩
    · obtain rfl : k = n := by omega
      rw [Nat.sub_self] at hix
      have Hix := hide hix; clear hix
      go_wp2
      go_ret
      exact ⟨retI Hix.out, hb⟩
theorem cfI (A : Option Addr) (n c : Nat) (e0 : Nat → Value) (q : Nat → Bool) (g : Nat) (lb : Array Value) (eg : ∀ args w, (callFunc g args).run Tryz.prog w = .ok (.enter g args) w) (w : World) (hn : n ≤ 9223372036854775807)
    (hc : ∀ j, j < n → ∃ b o, A = some ⟨b, o, none⟩ ∧ b < w.heap.size ∧ w.cell? ⟨b, o + j, none⟩ = some (e0 j))
    (hp : ∀ j, j < n → ∀ W, Below w.heap.size w W → Calls Tryz.prog g (#[(e0 j)] ++ lb) W fun e w' => e = .returned (.bool (q j)) ∧ Below W.heap.size W w') :
    Calls Tryz.prog 49 #[.slice A n c, .func (.func g) #[] lb] w fun e w' => e = .returned (.bool (anyq q n)) ∧ Below w.heap.size w w' := by
  have H := hide (ixfI A n c e0 q g lb eg w hn hc hp); clear hc hp
  go_enter Tryz.func49, Tryz.ntmps49
  go_wp2_with fail
  refine (H.out).mono ?_
  rintro e w2 ⟨rfl, hb2⟩
  go_wp2
  go_ret
  exact ⟨rfl, hb2⟩
end Go.Proofs.YtgkjakoagdkpcaaGreatDoor
set_option linter.unusedSimpArgs false
set_option linter.unusedVariables false
set_option maxRecDepth 100000
namespace Go.Proofs.YtgkjakoagdkpcaaGreatDoor
open Go.RowKit

set_option maxHeartbeats 1000000 in
theorem ixfIns (A : Option Addr) (n c : Nat) (e0 e1 : Nat → Value) (q : Nat → Bool) (g : Nat) (lb : Array Value) (eg : ∀ args w, (callFunc g args).run Tryz.prog w = .ok (.enter g args) w) (w : World) (hn : n ≤ 9223372036854775807)
    (hc : ∀ j, j < n → ∃ b o, A = some ⟨b, o, none⟩ ∧ b < w.heap.size ∧ w.cell? ⟨b, o + j * 2, none⟩ = some (e0 j) ∧ w.cell? ⟨b, o + j * 2 + 1, none⟩ = some (e1 j))
    (hp : ∀ j, j < n → ∀ W, Below w.heap.size w W → Calls Tryz.prog g (#[(.agg #[e0 j, e1 j])] ++ lb) W fun e w' => e = .returned (.bool (q j)) ∧ Below W.heap.size W w') :
    Calls Tryz.prog 89 #[.slice A n c, .func (.func g) #[] lb] w fun e w' => e = .returned (.int .i64 (ixq q 0 n)) ∧ Below w.heap.size w w' := by
  have Hc := hide hc; have Hp := hide hp; clear hc hp
  go_enter Tryz.func89, Tryz.ntmps89
  go_wp2
  go_loopw [8] (fun i wr => ∃ k : Nat, k ≤ n ∧ i = .int .i64 k ∧ ixq q k (n - k) = ixq q 0 n ∧ Below w.heap.size w wr) (fun i _ => n - (intOf i).toNat)
  case atStart => exact ⟨0, by omega, rfl, rfl, Below.refl _ _⟩
  case round =>
    obtain ⟨k, hk, rfl, hix, hb⟩ := hrel
    by_cases hlt : k < n
    · obtain ⟨b, o, rfl, hbB, s0, s1⟩ := Hc.out k hlt
      have hcall := Hp.out k hlt wr hb
      have hs0 := (hb.cell (p := ⟨b, o + k * 2, none⟩) hbB).trans s0
      have hs1 := (hb.cell (p := ⟨b, o + k * 2 + 1, none⟩) hbB).trans s1
      have hy := fun h => ixq_yes (q := q) (n := n) hlt h
      have hn := fun h => ixq_no (q := q) (n := n) hlt h
      rw [hix] at hy hn
      have Hb := hide hb
      clear hb s0 s1 Hc Hp hix
      cases hh : q k
      · have Hn := hide (hn hh); clear hy hn
        rw [hh] at hcall
        have Hcall := hide hcall; clear hcall hh
        go_wp2_with fail
        refine (Hcall.out).mono ?_
        rintro e w2 ⟨rfl, hb2⟩
        go_wp2
        go_roundw
        case rel => exact ⟨k + 1, by omega, by go_num, Hn.out.symm, Hb.out.trans (hb2.mono Hb.out.size)⟩
        case measure => simp [intOf]; omega
      · have Hy := hide (hy hh); clear hy hn
        rw [hh] at hcall
        have Hcall := hide hcall; clear hcall hh
        go_wp2_with fail
        refine (Hcall.out).mono ?_
        rintro e w2 ⟨rfl, hb2⟩
        go_wp2
        go_ret
        exact ⟨retI Hy.out.symm, Hb.out.trans (hb2.mono Hb.out.size)⟩
    · obtain rfl : k = n := by omega
      rw [Nat.sub_self] at hix
      have Hix := hide hix; clear hix
      go_wp2
      go_ret
      exact ⟨retI Hix.out, hb⟩
theorem cfIns (A : Option Addr) (n c : Nat) (e0 e1 : Nat → Value) (q : Nat → Bool) (g : Nat) (lb : Array Value) (eg : ∀ args w, (callFunc g args).run Tryz.prog w = .ok (.enter g args) w) (w : World) (hn : n ≤ 9223372036854775807)
    (hc : ∀ j, j < n → ∃ b o, A = some ⟨b, o, none⟩ ∧ b < w.heap.size ∧ w.cell? ⟨b, o + j * 2, none⟩ = some (e0 j) ∧ w.cell? ⟨b, o + j * 2 + 1, none⟩ = some (e1 j))
    (hp : ∀ j, j < n → ∀ W, Below w.heap.size w W → Calls Tryz.prog g (#[(.agg #[e0 j, e1 j])] ++ lb) W fun e w' => e = .returned (.bool (q j)) ∧ Below W.heap.size W w') :
    Calls Tryz.prog 75 #[.slice A n c, .func (.func g) #[] lb] w fun e w' => e = .returned (.bool (anyq q n)) ∧ Below w.heap.size w w' := by
  have H := hide (ixfIns A n c e0 e1 q g lb eg w hn hc hp); clear hc hp
  go_enter Tryz.func75, Tryz.ntmps75
  go_wp2_with fail
  refine (H.out).mono ?_
  rintro e w2 ⟨rfl, hb2⟩
  go_wp2
  go_ret
  exact ⟨rfl, hb2⟩
end Go.Proofs.YtgkjakoagdkpcaaGreatDoor
set_option linter.unusedSimpArgs false
set_option linter.unusedVariables false
set_option maxRecDepth 100000
namespace Go.Proofs.YtgkjakoagdkpcaaGreatDoor
open Go.RowKit

set_option maxHeartbeats 1000000 in
theorem ixfCode (A : Option Addr) (n c : Nat) (e0 e1 e2 e3 e4 : Nat → Value) (q : Nat → Bool) (g : Nat) (lb : Array Value) (eg : ∀ args w, (callFunc g args).run Tryz.prog w = .ok (.enter g args) w) (w : World) (hn : n ≤ 9223372036854775807)
    (hc : ∀ j, j < n → ∃ b o, A = some ⟨b, o, none⟩ ∧ b < w.heap.size ∧ w.cell? ⟨b, o + j * 5, none⟩ = some (e0 j) ∧ w.cell? ⟨b, o + j * 5 + 1, none⟩ = some (e1 j) ∧ w.cell? ⟨b, o + j * 5 + 2, none⟩ = some (e2 j) ∧ w.cell? ⟨b, o + j * 5 + 3, none⟩ = some (e3 j) ∧ w.cell? ⟨b, o + j * 5 + 4, none⟩ = some (e4 j))
    (hp : ∀ j, j < n → ∀ W, Below w.heap.size w W → Calls Tryz.prog g (#[(.agg #[e0 j, e1 j, e2 j, e3 j, e4 j])] ++ lb) W fun e w' => e = .returned (.bool (q j)) ∧ Below W.heap.size W w') :
    Calls Tryz.prog 74 #[.slice A n c, .func (.func g) #[] lb] w fun e w' => e = .returned (.int .i64 (ixq q 0 n)) ∧ Below w.heap.size w w' := by
  have Hc := hide hc; have Hp := hide hp; clear hc hp
  go_enter Tryz.func74, Tryz.ntmps74
  go_wp2
  go_loopw [8] (fun i wr => ∃ k : Nat, k ≤ n ∧ i = .int .i64 k ∧ ixq q k (n - k) = ixq q 0 n ∧ Below w.heap.size w wr) (fun i _ => n - (intOf i).toNat)
  case atStart => exact ⟨0, by omega, rfl, rfl, Below.refl _ _⟩
  case round =>
    obtain ⟨k, hk, rfl, hix, hb⟩ := hrel
    by_cases hlt : k < n
    · obtain ⟨b, o, rfl, hbB, s0, s1, s2, s3, s4⟩ := Hc.out k hlt
      have hcall := Hp.out k hlt wr hb
      have hs0 := (hb.cell (p := ⟨b, o + k * 5, none⟩) hbB).trans s0
      have hs1 := (hb.cell (p := ⟨b, o + k * 5 + 1, none⟩) hbB).trans s1
      have hs2 := (hb.cell (p := ⟨b, o + k * 5 + 2, none⟩) hbB).trans s2
      have hs3 := (hb.cell (p := ⟨b, o + k * 5 + 3, none⟩) hbB).trans s3
      have hs4 := (hb.cell (p := ⟨b, o + k * 5 + 4, none⟩) hbB).trans s4
      have hy := fun h => ixq_yes (q := q) (n := n) hlt h
      have hn := fun h => ixq_no (q := q) (n := n) hlt h
      rw [hix] at hy hn
      have Hb := hide hb
      clear hb s0 s1 s2 s3 s4 Hc Hp hix
      cases hh : q k
      · have Hn := hide (hn hh); clear hy hn
        rw [hh] at hcall
        have Hcall := hide hcall; clear hcall hh
        go_wp2_with fail
        refine (Hcall.out).mono ?_
        rintro e w2 ⟨rfl, hb2⟩
        go_wp2
        go_roundw
        case rel => exact ⟨k + 1, by omega, by go_num, Hn.out.symm, Hb.out.trans (hb2.mono Hb.out.size)⟩
        case measure => simp [intOf]; omega
      · have Hy := hide (hy hh); clear hy hn
        rw [hh] at hcall
        have Hcall := hide hcall; clear hcall hh
        go_wp2_with fail
        refine (Hcall.out).mono ?_
        rintro e w2 ⟨rfl, hb2⟩
        go_wp2
        go_ret
        exact ⟨retI Hy.out.symm, Hb.out.trans (hb2.mono Hb.out.size)⟩
    · obtain rfl : k = n := by omega
      rw [Nat.sub_self] at hix
      have Hix := hide hix; clear hix
      go_wp2
      go_ret
      exact ⟨retI Hix.out, hb⟩
theorem cfCode (A : Option Addr) (n c : Nat) (e0 e1 e2 e3 e4 : Nat → Value) (q : Nat → Bool) (g : Nat) (lb : Array Value) (eg : ∀ args w, (callFunc g args).run Tryz.prog w = .ok (.enter g args) w) (w : World) (hn : n ≤ 9223372036854775807)
    (hc : ∀ j, j < n → ∃ b o, A = some ⟨b, o, none⟩ ∧ b < w.heap.size ∧ w.cell? ⟨b, o + j * 5, none⟩ = some (e0 j) ∧ w.cell? ⟨b, o + j * 5 + 1, none⟩ = some (e1 j) ∧ w.cell? ⟨b, o + j * 5 + 2, none⟩ = some (e2 j) ∧ w.cell? ⟨b, o + j * 5 + 3, none⟩ = some (e3 j) ∧ w.cell? ⟨b, o + j * 5 + 4, none⟩ = some (e4 j))
    (hp : ∀ j, j < n → ∀ W, Below w.heap.size w W → Calls Tryz.prog g (#[(.agg #[e0 j, e1 j, e2 j, e3 j, e4 j])] ++ lb) W fun e w' => e = .returned (.bool (q j)) ∧ Below W.heap.size W w') :
    Calls Tryz.prog 45 #[.slice A n c, .func (.func g) #[] lb] w fun e w' => e = .returned (.bool (anyq q n)) ∧ Below w.heap.size w w' := by
  have H := hide (ixfCode A n c e0 e1 e2 e3 e4 q g lb eg w hn hc hp); clear hc hp
  go_enter Tryz.func45, Tryz.ntmps45
  go_wp2_with fail
  refine (H.out).mono ?_
  rintro e w2 ⟨rfl, hb2⟩
  go_wp2
  go_ret
  exact ⟨rfl, hb2⟩
end Go.Proofs.YtgkjakoagdkpcaaGreatDoor
set_option linter.unusedSimpArgs false
set_option linter.unusedVariables false
set_option maxRecDepth 100000
namespace Go.Proofs.YtgkjakoagdkpcaaGreatDoor
open Go.RowKit

end Go.Proofs.YtgkjakoagdkpcaaGreatDoor
