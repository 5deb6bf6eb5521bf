
/- slices.IndexFunc, slices.ContainsFunc at []loop.example/g00745/impl.Stmt,loop.example/g00745/impl.Stmt, of whatever function. No condition. -/
import Derived.Test.YtheddnjhkcpmnaaCfP
import Derived.Test.YtheddnjhkcpmnaaChecked
set_option linter.unusedSimpArgs false
set_option linter.unusedVariables false
set_option maxRecDepth 100000
namespace Go.Proofs.Ytheddnjhkcpmnaa
open Go.RowKit

set_option maxHeartbeats 1000000 in
theorem ixfStmt (A : Option Addr) (n c : Nat) (e0 e1 e2 e3 e4 : Nat → Value) (q : Nat → Bool) (g : Nat) (lb : Array Value) (eg : ∀ args w, (callFunc g args).run Try.prog w = .ok (.enter g args) w) (w : World) (hn : n ≤ 9223372036854775807)
    (hc : ∀ j, j < n → ∃ b o, A = some ⟨b, o, none⟩ ∧ b < w.heap.size ∧ w.cell? ⟨b, o + j * 5, none⟩ = some (e0 j) ∧ w.cell? ⟨b, o + j * 5 + 1, none⟩ = some (e1 j) ∧ w.cell? ⟨b, o + j * 5 + 2, none⟩ = some (e2 j) ∧ w.cell? ⟨b, o + j * 5 + 3, none⟩ = some (e3 j) ∧ w.cell? ⟨b, o + j * 5 + 4, none⟩ = some (e4 j))
    (hp : ∀ j, j < n → ∀ W, Below w.heap.size w W → Calls Try.prog g (#[(.agg #[e0 j, e1 j, e2 j, e3 j, e4 j])] ++ lb) W fun e w' => e = .returned (.bool (q j)) ∧ Below W.heap.size W w') :
    Calls Try.prog 119 #[.slice A n c, .func (.func g) #[] lb] w fun e w' => e = .returned (.int .i64 (ixq q 0 n)) ∧ Below w.heap.size w w' := by
  have Hc := hide hc; have Hp := hide hp; clear hc hp
  go_enter Try.func119, Try.ntmps119
  go_wp2
  go_loopw [8] (fun i wr => ∃ k : Nat, k ≤ n ∧ i = .int .i64 k ∧ ixq q k (n - k) = ixq q 0 n ∧ Below w.heap.size w wr) (fun i _ => n - (intOf i).toNat)
  case atStart => exact ⟨0, by omega, rfl, rfl, Below.refl _ _⟩
  case round =>
    obtain ⟨k, hk, rfl, hix, hb⟩ := hrel
    by_cases hlt : k < n
    · obtain ⟨b, o, rfl, hbB, s0, s1, s2, s3, s4⟩ := Hc.out k hlt
      have hcall := Hp.out k hlt wr hb
      have hs0 := (hb.cell (p := ⟨b, o + k * 5, none⟩) hbB).trans s0
      have hs1 := (hb.cell (p := ⟨b, o + k * 5 + 1, none⟩) hbB).trans s1
      have hs2 := (hb.cell (p := ⟨b, o + k * 5 + 2, none⟩) hbB).trans s2
      have hs3 := (hb.cell (p := ⟨b, o + k * 5 + 3, none⟩) hbB).trans s3
      have hs4 := (hb.cell (p := ⟨b, o + k * 5 + 4, none⟩) hbB).trans s4
      have hy := fun h => ixq_yes (q := q) (n := n) hlt h
      have hn := fun h => ixq_no (q := q) (n := n) hlt h
      rw [hix] at hy hn
      have Hb := hide hb
      clear hb s0 s1 s2 s3 s4 Hc Hp hix
      cases hh : q k
      · have Hn := hide (hn hh); clear hy hn
        rw [hh] at hcall
        have Hcall := hide hcall; clear hcall hh
        go_wp2_with fail
        refine (Hcall.out).mono ?_
        rintro e w2 ⟨rfl, hb2⟩
        go_wp2
        go_roundw
        case rel => exact ⟨k + 1, by omega, by go_num, Hn.out.symm, Hb.out.trans (hb2.mono Hb.out.size)⟩
        case measure => simp [intOf]; omega
      · have Hy := hide (hy hh); clear hy hn
        rw [hh] at hcall
        have Hcall := hide hcall; clear hcall hh
        go_wp2_with fail
        refine (Hcall.out).mono ?_
        rintro e w2 ⟨rfl, hb2⟩
        go_wp2
        go_ret
        exact ⟨retI Hy.out.symm, Hb.out.trans (hb2.mono Hb.out.size)⟩
    · obtain rfl : k = n := by omega
      rw [Nat.sub_self] at hix
      have Hix := hide hix; clear hix
      go_wp2
      go_ret
      exact ⟨retI Hix.out, hb⟩
theorem cfStmt (A : Option Addr) (n c : Nat) (e0 e1 e2 e3 e4 : Nat → Value) (q : Nat → Bool) (g : Nat) (lb : Array Value) (eg : ∀ args w, (callFunc g args).run Try.prog w = .ok (.enter g args) w) (w : World) (hn : n ≤ 9223372036854775807)
    (hc : ∀ j, j < n → ∃ b o, A = some ⟨b, o, none⟩ ∧ b < w.heap.size ∧ w.cell? ⟨b, o + j * 5, none⟩ = some (e0 j) ∧ w.cell? ⟨b, o + j * 5 + 1, none⟩ = some (e1 j) ∧ w.cell? ⟨b, o + j * 5 + 2, none⟩ = some (e2 j) ∧ w.cell? ⟨b, o + j * 5 + 3, none⟩ = some (e3 j) ∧ w.cell? ⟨b, o + j * 5 + 4, none⟩ = some (e4 j))
    (hp : ∀ j, j < n → ∀ W, Below w.heap.size w W → Calls Try.prog g (#[(.agg #[e0 j, e1 j, e2 j, e3 j, e4 j])] ++ lb) W fun e w' => e = .returned (.bool (q j)) ∧ Below W.heap.size W w') :
    Calls Try.prog 83 #[.slice A n c, .func (.func g) #[] lb] w fun e w' => e = .returned (.bool (anyq q n)) ∧ Below w.heap.size w w' := by
  have H := hide (ixfStmt A n c e0 e1 e2 e3 e4 q g lb eg w hn hc hp); clear hc hp
  go_enter Try.func83, Try.ntmps83
  go_wp2_with fail
  refine (H.out).mono ?_
  rintro e w2 ⟨rfl, hb2⟩
  go_wp2
  go_ret
  exact ⟨rfl, hb2⟩
end Go.Proofs.Ytheddnjhkcpmnaa
