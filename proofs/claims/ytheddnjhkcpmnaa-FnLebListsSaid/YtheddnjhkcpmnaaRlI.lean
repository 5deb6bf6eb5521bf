
/- impl.ReadListU: what the Go text returns. No condition. -/
import Derived.Test.YtheddnjhkcpmnaaRlP
import Derived.Test.YtheddnjhkcpmnaaRdL
import Derived.Test.YtheddnjhkcpmnaaSlU
import Derived.Test.YtheddnjhkcpmnaaBld
set_option linter.unusedSimpArgs false
set_option linter.unusedVariables false
set_option maxRecDepth 100000
namespace Go.Proofs.Ytheddnjhkcpmnaa
open Go.RowKit

set_option maxHeartbeats 800000 in
theorem impl_ReadListU (s : ByteArray) (a : Int) (hs : s.size ≤ 9223372036854775807) (h1 : -9223372036854775808 ≤ a) (h2 : a ≤ 9223372036854775807) (w : World) :
    Calls Try.prog 25 #[.string s, .int .i64 a] w fun e w' => ∃ v, e = .returned (.tuple #[v, .int .i64 (rdL s a).2.1, .bool (rdL s a).2.2]) ∧ w'.ownsRow w.heap.size 24 1 v (rdL s a).1.length (icells .u64 (rdL s a).1) ∧ Below w.heap.size w w' := by
  have hc := fun w => impl_readU s a hs h1 h2 w
  have hf := rdU_facts s a
  have hN := @rdL_no s a
  have hS := @rdL_some s a
  have hO := @rdL_none s a
  generalize rdU s a = r at *
  obtain ⟨many, e0, cd, ok⟩ := r
  dsimp only at *
  have Hc := Lib.hid hc; clear hc
  cases ok
  · have HN := hide (hN (by simp)); clear hN hS hO hf
    go_enter Try.func25, Try.ntmps25
    go_wp2_with (go_at_call 63; refine (Hc.out _).mono ?_; rintro e w1 ⟨rfl, rfl⟩)
    go_ret3
    rw [HN.out]
    exact ⟨_, rfl, World.ownsRow_nil _ _ _ _, Below.refl _ _⟩
  · obtain ⟨f1, f2, f3⟩ := hf rfl
    clear hf
    by_cases g : many ≤ 200
    · have HS := hide (fun x => hS (x := x) rfl g)
      have HO := hide (hO rfl g)
      clear hN hS hO
      go_enter Try.func25, Try.ntmps25
      go_wp2_with (go_at_call 63; refine (Hc.out _).mono ?_; rintro e w1 ⟨rfl, rfl⟩)
      go_loopw [10, 1, 30] (fun out en i wr => ∃ (k : Nat) (acc : List Int) (e : Nat), k ≤ many ∧ i = .int .u64 k ∧ en = .int .i64 e ∧ e ≤ s.size ∧ acc.length = k ∧ rdLoop s (many - k) e acc = rdLoop s many e0 [] ∧ wr.ownsRow w.heap.size 24 1 out acc.length (icells .u64 acc) ∧ Below w.heap.size w wr) (fun _ _ i _ => many - (intOf i).toNat)
      case atStart => exact ⟨0, [], e0, by omega, rfl, rfl, f2, rfl, rfl, World.ownsRow_nil _ _ _ _, Below.refl _ _⟩
      case round =>
        obtain ⟨k, acc, e, hk, rfl, rfl, hes, hal, hlp, hown, hb⟩ := hrel
        have Hal := hide hal
        have hal2 : acc.length ≤ 200 := by omega
        clear hal
        by_cases hlt : k < many
        · have hcr := fun w => impl_readU s e hs (by omega) (by omega) w
          have hf := rdU_facts s e
          have hy := @rdLoop_yes s (many - (k + 1)) e acc
          have hn := @rdLoop_no s (many - (k + 1)) e acc
          rw [show many - (k + 1) + 1 = many - k by omega, hlp] at hy hn
          generalize rdU s (e : Int) = r at *
          obtain ⟨x, nx, cd2, ok2⟩ := r
          dsimp only at *
          have Hcr := Lib.hid hcr; clear hcr
          have Hown := hide hown; have Hb := hide hb
          cases ok2
          · have HN := hide (HO.out (hn rfl)); clear hf hy hn hlp hown hb
            go_wp2_with (go_at_call 63; refine (Hcr.out _).mono ?_; rintro e w2 ⟨rfl, rfl⟩)
            go_ret3
            rw [HN.out]
            exact ⟨_, rfl, World.ownsRow_nil _ _ _ _, Hb.out⟩
          · obtain ⟨f4, f5, f6⟩ := hf rfl
            have Hy := hide (hy rfl); clear hf hy hn hlp hown hb
            go_wp2_with (first
              | (go_at_call 63; refine (Hcr.out _).mono ?_; rintro e w2 ⟨rfl, rfl⟩; have Hown2 := hide Hown.out; have Hbb := hide Hb.out)
              | (at_builtin; refine wpList_push rfl _ _ _ rfl okU64 rfl Hown2.out _ rfl rfl (by simp [Value.oneCell']) (by unfold maxLen; omega) (by omega) Hbb.out.size ?_; intro v1 w3 hown3 hg3))
            go_roundw
            case rel => exact ⟨k + 1, acc ++ [(x : Int)], nx, by omega, by go_num, rfl, f5, by rw [List.length_append, Hal.out]; rfl, Hy.out.symm, by rw [List.length_append, icells_append]; exact hown3, belowPush Hbb.out Hown2.out Hbb.out.size hg3⟩
            case measure => simp [intOf]; omega
        · obtain rfl : k = many := by omega
          rw [Nat.sub_self] at hlp
          have HS' := hide (HS.out _ hlp.symm); clear hlp
          go_wp2
          go_ret3
          rw [HS'.out]
          exact ⟨_, rfl, hown, hb⟩
    · have HN := hide (hN (by simp [g])); clear hN hS hO
      go_enter Try.func25, Try.ntmps25
      go_wp2_with (go_at_call 63; refine (Hc.out _).mono ?_; rintro e w1 ⟨rfl, rfl⟩)
      go_ret3
      rw [HN.out]
      exact ⟨_, rfl, World.ownsRow_nil _ _ _ _, Below.refl _ _⟩
end Go.Proofs.Ytheddnjhkcpmnaa
