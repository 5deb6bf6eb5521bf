
/- slices.IndexFunc, slices.ContainsFunc at []loop.example/g00745/impl.Tok,loop.example/g00745/impl.Tok, of whatever function. No condition. -/
import Derived.Test.YtheddnjhkcpmnaaGreatDoorCfP
import Derived.Test.YtheddnjhkcpmnaaGreatDoorChecked
set_option linter.unusedSimpArgs false
set_option linter.unusedVariables false
set_option maxRecDepth 100000
namespace Go.Proofs.YtheddnjhkcpmnaaGreatDoor
open Go.RowKit

set_option maxHeartbeats 1000000 in
theorem ixfTok (A : Option Addr) (n c : Nat) (e0 e1 : Nat → Value) (q : Nat → Bool) (g : Nat) (lb : Array Value) (eg : ∀ args w, (callFunc g args).run Tryz.prog w = .ok (.enter g args) w) (w : World) (hn : n ≤ 9223372036854775807)
    (hc : ∀ j, j < n → ∃ b o, A = some ⟨b, o, none⟩ ∧ b < w.heap.size ∧ w.cell? ⟨b, o + j * 2, none⟩ = some (e0 j) ∧ w.cell? ⟨b, o + j * 2 + 1, none⟩ = some (e1 j))
    (hp : ∀ j, j < n → ∀ W, Below w.heap.size w W → Calls Tryz.prog g (#[(.agg #[e0 j, e1 j])] ++ lb) W fun e w' => e = .returned (.bool (q j)) ∧ Below W.heap.size W w') :
    Calls Tryz.prog 45 #[.slice A n c, .func (.func g) #[] lb] w fun e w' => e = .returned (.int .i64 (ixq q 0 n)) ∧ Below w.heap.size w w' := by
  have Hc := hide hc; have Hp := hide hp; clear hc hp
  go_enter Tryz.func45, Tryz.ntmps45
  go_wp2
  go_loopw [8] (fun i wr => ∃ k : Nat, k ≤ n ∧ i = .int .i64 k ∧ ixq q k (n - k) = ixq q 0 n ∧ Below w.heap.size w wr) (fun i _ => n - (intOf i).toNat)
  case atStart => exact ⟨0, by omega, rfl, rfl, Below.refl _ _⟩
  case round =>
    obtain ⟨k, hk, rfl, hix, hb⟩ := hrel
    by_cases hlt : k < n
    · obtain ⟨b, o, rfl, hbB, s0, s1⟩ := Hc.out k hlt
      have hcall := Hp.out k hlt wr hb
      have hs0 := (hb.cell (p := ⟨b, o + k * 2, none⟩) hbB).trans s0
      have hs1 := (hb.cell (p := ⟨b, o + k * 2 + 1, none⟩) hbB).trans s1
      have hy := fun h => ixq_yes (q := q) (n := n) hlt h
      have hn := fun h => ixq_no (q := q) (n := n) hlt h
      rw [hix] at hy hn
      have Hb := hide hb
      clear hb s0 s1 Hc Hp hix
      cases hh : q k
      · have Hn := hide (hn hh); clear hy hn
        rw [hh] at hcall
        have Hcall := hide hcall; clear hcall hh
        go_wp2_with fail
        refine (Hcall.out).mono ?_
        rintro e w2 ⟨rfl, hb2⟩
        go_wp2
        go_roundw
        case rel => exact ⟨k + 1, by omega, by go_num, Hn.out.symm, Hb.out.trans (hb2.mono Hb.out.size)⟩
        case measure => simp [intOf]; omega
      · have Hy := hide (hy hh); clear hy hn
        rw [hh] at hcall
        have Hcall := hide hcall; clear hcall hh
        go_wp2_with fail
        refine (Hcall.out).mono ?_
        rintro e w2 ⟨rfl, hb2⟩
        go_wp2
        go_ret
        exact ⟨retI Hy.out.symm, Hb.out.trans (hb2.mono Hb.out.size)⟩
    · obtain rfl : k = n := by omega
      rw [Nat.sub_self] at hix
      have Hix := hide hix; clear hix
      go_wp2
      go_ret
      exact ⟨retI Hix.out, hb⟩
theorem cfTok (A : Option Addr) (n c : Nat) (e0 e1 : Nat → Value) (q : Nat → Bool) (g : Nat) (lb : Array Value) (eg : ∀ args w, (callFunc g args).run Tryz.prog w = .ok (.enter g args) w) (w : World) (hn : n ≤ 9223372036854775807)
    (hc : ∀ j, j < n → ∃ b o, A = some ⟨b, o, none⟩ ∧ b < w.heap.size ∧ w.cell? ⟨b, o + j * 2, none⟩ = some (e0 j) ∧ w.cell? ⟨b, o + j * 2 + 1, none⟩ = some (e1 j))
    (hp : ∀ j, j < n → ∀ W, Below w.heap.size w W → Calls Tryz.prog g (#[(.agg #[e0 j, e1 j])] ++ lb) W fun e w' => e = .returned (.bool (q j)) ∧ Below W.heap.size W w') :
    Calls Tryz.prog 23 #[.slice A n c, .func (.func g) #[] lb] w fun e w' => e = .returned (.bool (anyq q n)) ∧ Below w.heap.size w w' := by
  have H := hide (ixfTok A n c e0 e1 q g lb eg w hn hc hp); clear hc hp
  go_enter Tryz.func23, Tryz.ntmps23
  go_wp2_with fail
  refine (H.out).mono ?_
  rintro e w2 ⟨rfl, hb2⟩
  go_wp2
  go_ret
  exact ⟨rfl, hb2⟩
end Go.Proofs.YtheddnjhkcpmnaaGreatDoor
