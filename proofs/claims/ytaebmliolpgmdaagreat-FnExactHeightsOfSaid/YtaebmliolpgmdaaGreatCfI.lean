
/- slices.IndexFunc, slices.ContainsFunc at []int,int, of whatever function. No condition. -/
import Derived.Test.YtaebmliolpgmdaaGreatCfP
import Derived.Test.YtaebmliolpgmdaaGreatChecked
set_option linter.unusedSimpArgs false
set_option linter.unusedVariables false
set_option maxRecDepth 100000
namespace Go.Proofs.YtaebmliolpgmdaaGreat
open Go.RowKit

set_option maxHeartbeats 1000000 in
theorem ixfI (A : Option Addr) (n c : Nat) (e0 : Nat → Value) (q : Nat → Bool) (g : Nat) (lb : Array Value) (eg : ∀ args w, (callFunc g args).run Tryz.prog w = .ok (.enter g args) w) (w : World) (hn : n ≤ 9223372036854775807)
    (hc : ∀ j, j < n → ∃ b o, A = some ⟨b, o, none⟩ ∧ b < w.heap.size ∧ w.cell? ⟨b, o + j, none⟩ = some (e0 j))
    (hp : ∀ j, j < n → ∀ W, Below w.heap.size w W → Calls Tryz.prog g (#[(e0 j)] ++ lb) W fun e w' => e = .returned (.bool (q j)) ∧ Below W.heap.size W w') :
    Calls Tryz.prog 90 #[.slice A n c, .func (.func g) #[] lb] w fun e w' => e = .returned (.int .i64 (ixq q 0 n)) ∧ Below w.heap.size w w' := by
  have Hc := hide hc; have Hp := hide hp; clear hc hp
  go_enter Tryz.func90, Tryz.ntmps90
  go_wp2
  go_loopw [8] (fun i wr => ∃ k : Nat, k ≤ n ∧ i = .int .i64 k ∧ ixq q k (n - k) = ixq q 0 n ∧ Below w.heap.size w wr) (fun i _ => n - (intOf i).toNat)
  case atStart => exact ⟨0, by omega, rfl, rfl, Below.refl _ _⟩
  case round =>
    obtain ⟨k, hk, rfl, hix, hb⟩ := hrel
    by_cases hlt : k < n
    · obtain ⟨b, o, rfl, hbB, s0⟩ := Hc.out k hlt
      have hcall := Hp.out k hlt wr hb
      have hs0 := (hb.cell (p := ⟨b, o + k, none⟩) hbB).trans s0
      have hy := fun h => ixq_yes (q := q) (n := n) hlt h
      have hn := fun h => ixq_no (q := q) (n := n) hlt h
      rw [hix] at hy hn
      have Hb := hide hb
      clear hb s0 Hc Hp hix
      cases hh : q k
      · have Hn := hide (hn hh); clear hy hn
        rw [hh] at hcall
        have Hcall := hide hcall; clear hcall hh
        go_wp2_with fail
        refine (Hcall.out).mono ?_
        rintro e w2 ⟨rfl, hb2⟩
        go_wp2
        go_roundw
        case rel => exact ⟨k + 1, by omega, by go_num, Hn.out.symm, Hb.out.trans (hb2.mono Hb.out.size)⟩
        case measure => simp [intOf]; omega
      · have Hy := hide (hy hh); clear hy hn
        rw [hh] at hcall
        have Hcall := hide hcall; clear hcall hh
        go_wp2_with fail
        refine (Hcall.out).mono ?_
        rintro e w2 ⟨rfl, hb2⟩
        go_wp2
        go_ret
        exact ⟨retI Hy.out.symm, Hb.out.trans (hb2.mono Hb.out.size)⟩
    · obtain rfl : k = n := by omega
      rw [Nat.sub_self] at hix
      have Hix := hide hix; clear hix
      go_wp2
      go_ret
      exact ⟨retI Hix.out, hb⟩
theorem cfI (A : Option Addr) (n c : Nat) (e0 : Nat → Value) (q : Nat → Bool) (g : Nat) (lb : Array Value) (eg : ∀ args w, (callFunc g args).run Tryz.prog w = .ok (.enter g args) w) (w : World) (hn : n ≤ 9223372036854775807)
    (hc : ∀ j, j < n → ∃ b o, A = some ⟨b, o, none⟩ ∧ b < w.heap.size ∧ w.cell? ⟨b, o + j, none⟩ = some (e0 j))
    (hp : ∀ j, j < n → ∀ W, Below w.heap.size w W → Calls Tryz.prog g (#[(e0 j)] ++ lb) W fun e w' => e = .returned (.bool (q j)) ∧ Below W.heap.size W w') :
    Calls Tryz.prog 51 #[.slice A n c, .func (.func g) #[] lb] w fun e w' => e = .returned (.bool (anyq q n)) ∧ Below w.heap.size w w' := by
  have H := hide (ixfI A n c e0 q g lb eg w hn hc hp); clear hc hp
  go_enter Tryz.func51, Tryz.ntmps51
  go_wp2_with fail
  refine (H.out).mono ?_
  rintro e w2 ⟨rfl, hb2⟩
  go_wp2
  go_ret
  exact ⟨rfl, hb2⟩
end Go.Proofs.YtaebmliolpgmdaaGreat
