
/- CoverOf: what the Go text returns. No condition. -/
import Derived.Test.YtheddnjhkcpmnaaPf
import Derived.Test.YtheddnjhkcpmnaaSl6
import Derived.Test.YtheddnjhkcpmnaaMem
import Derived.Deep.RegionWith
set_option linter.unusedSimpArgs false
set_option linter.unusedVariables false
set_option maxRecDepth 100000
namespace Go.Proofs.Ytheddnjhkcpmnaa
open Go.RowKit

def coverL (l : List R3) (n : Nat) : List Int := (List.range n).map fun (a : Nat) => rowIx a l 0
theorem coverL_length (l : List R3) (n : Nat) : (coverL l n).length = n := by simp [coverL]
theorem coverL_succ (l : List R3) (n : Nat) : coverL l (n + 1) = coverL l n ++ [rowIx n l 0] := by simp [coverL, List.range_succ]
theorem coverL_get (l : List R3) (n k : Nat) (h : k < n) : (coverL l n)[k]'(by rw [coverL_length]; exact h) = rowIx k l 0 := by simp [coverL]
def coverOf (l : List R3) (many : Int) : List Int := if goodRows l many = true then coverL l many.toNat else []
theorem rowIx_small (l : List R3) (a : Int) (h : l.length ≤ 300) : -1 ≤ rowIx a l 0 ∧ rowIx a l 0 ≤ 300 := by
  rcases rowIx_bd a l 0 with h1 | ⟨h1, h2⟩ <;> omega

set_option maxHeartbeats 800000 in
theorem spec_CoverOf (v : Value) (l : List R3) (many : Int) (w : World) (hr : Rd w w.heap.size v l.length (rcells l)) (hl : l.length ≤ 9223372036854775807) :
    Calls Try.prog 48 #[v, .int .i64 many] w fun e w' => ∃ v', e = .returned (.tuple #[v', .bool (goodRows l many)]) ∧ w'.ownsRow w.heap.size 3 1 v' (coverOf l many).length (icells .i64 (coverOf l many)) ∧ Below w.heap.size w w' := by
  obtain ⟨A, c, rfl, hn, hc, hcell⟩ := id hr
  have hgood := fun w h => spec_l7Good (.slice A l.length c) l many w h hl
  have Hr := hide hr; clear hr hcell
  cases hg : goodRows l many
  · rw [hg] at hgood
    have Hp : Hid (coverOf l many = []) := by unfold Hid coverOf; rw [hg]; rfl
    have Hgood := hide hgood; clear hgood hg
    go_enter Try.func48, Try.ntmps48
    go_wp2_with (go_at_call 97; refine (Hgood.out _ Hr.out).mono ?_; rintro e w1 ⟨rfl, hb1⟩)
    go_ret2
    rw [Hp.out]
    exact ⟨_, rfl, World.ownsRow_nil _ _ _ _, hb1⟩
  · obtain ⟨hsm, g1, g2, g3⟩ := small_of_good hg
    obtain ⟨n, rfl⟩ := Int.eq_ofNat_of_zero_le (show 0 ≤ many by omega)
    have Hp : Hid (coverOf l n = coverL l n) := by unfold Hid coverOf; rw [hg]; rfl
    rw [hg] at hgood
    have hrow := fun a w h => spec_l5RowAt (.slice A l.length c) l a w h hl hsm
    have Hgood := hide hgood; have Hrow := hide hrow; clear hgood hg hsm hrow
    go_enter Try.func48, Try.ntmps48
    go_wp2_with (go_at_call 97; refine (Hgood.out _ Hr.out).mono ?_; rintro e w1 ⟨rfl, hb1⟩)
    go_loopw [6, 7] (fun out i wr => ∃ k : Nat, k ≤ n ∧ i = .int .i64 k ∧ wr.ownsRow w.heap.size 3 1 out k (icells .i64 (coverL l k)) ∧ Below w.heap.size w wr) (fun _ i _ => n - (intOf i).toNat)
    case atStart => exact ⟨0, by omega, rfl, World.ownsRow_nil _ _ _ _, hb1⟩
    case round =>
      obtain ⟨k, hk, rfl, hown, hb⟩ := hrel
      have Hown := hide hown; have Hb := hide hb; clear hown hb
      by_cases hlt : k < n
      · have hsucc := hide (coverL_succ l k)
        have hkb : k ≤ 300 := by omega
        go_wp2_with fail
        refine (Hrow.out (k : Int) _ (Hr.out.go' Hb.out)).mono ?_
        rintro e w2 ⟨rfl, hb2⟩
        have Hown2 := hide (own_keep Hown.out hb2); have Hb2 := hide (Hb.out.trans (hb2.mono Hb.out.size)); clear hb2
        generalize rowIx (k : Int) l 0 = x at *
        go_wp2_with (at_builtin; refine wpList_push rfl _ _ _ rfl okI64 rfl Hown2.out _ rfl rfl (by simp [Value.oneCell']) (by unfold maxLen; omega) (by omega) Hb2.out.size ?_; intro v3 w3 hown3 hg3)
        go_roundw
        case rel => exact ⟨k + 1, by omega, by go_num, by rw [hsucc.out, icells_append]; exact hown3, belowPush Hb2.out Hown2.out Hb2.out.size hg3⟩
        case measure => simp [intOf]; omega
      · obtain rfl : k = n := by omega
        go_wp2
        go_ret2
        rw [Hp.out]
        exact ⟨_, rfl, by rw [coverL_length]; exact Hown.out, Hb.out⟩

set_option maxHeartbeats 800000 in
theorem impl_CoverOf (v : Value) (l : List R3) (many : Int) (w : World) (hr : Rd w w.heap.size v l.length (rcells l)) (hl : l.length ≤ 9223372036854775807) :
    Calls Try.prog 47 #[v, .int .i64 many] w fun e w' => ∃ v', e = .returned (.tuple #[v', .bool (goodRows l many)]) ∧ w'.ownsRow w.heap.size 3 1 v' (coverOf l many).length (icells .i64 (coverOf l many)) ∧ Below w.heap.size w w' := by
  obtain ⟨A, c, rfl, hn, hc, hcell⟩ := id hr
  have hgood := fun w h => impl_GoodRows (.slice A l.length c) l many w h hl
  have Hr := hide hr; clear hr hcell
  cases hg : goodRows l many
  · rw [hg] at hgood
    have Hp : Hid (coverOf l many = []) := by unfold Hid coverOf; rw [hg]; rfl
    have Hgood := hide hgood; clear hgood hg
    go_enter Try.func47, Try.ntmps47
    go_wp2_with (go_at_call 50; refine (Hgood.out _ Hr.out).mono ?_; rintro e w1 ⟨rfl, hb1⟩)
    go_ret2
    rw [Hp.out]
    exact ⟨_, rfl, World.ownsRow_nil _ _ _ _, hb1⟩
  · obtain ⟨hsm, g1, g2, g3⟩ := small_of_good hg
    obtain ⟨n, rfl⟩ := Int.eq_ofNat_of_zero_le (show 0 ≤ many by omega)
    have Hp : Hid (coverOf l n = coverL l n) := by unfold Hid coverOf; rw [hg]; rfl
    rw [hg] at hgood
    have hrow := fun a w h => impl_rowOf (.slice A l.length c) l a w h hl
    have Hgood := hide hgood; have Hrow := hide hrow; clear hgood hg hsm hrow
    go_enter Try.func47, Try.ntmps47
    go_wp2_with (first
      | (go_at_call 50; refine (Hgood.out _ Hr.out).mono ?_; rintro e w1 ⟨rfl, hb1⟩)
      | (at_make; go_must (refine wpList_makeN rfl _ _ _ rfl okI64 n rfl rfl (by omega) (by unfold maxLen; omega) ?_); intro w2 hown2 hb2))
    have Hb1 := hide hb1
    have hb12 := hb1.trans (hb2.mono hb1.size)
    go_loopw [16] (fun i wr => ∃ k : Nat, k ≤ n ∧ i = .int .i64 k ∧ wr.ownsRow w1.heap.size 3 1 (.slice (some ⟨w1.heap.size, 0, none⟩) n n) n (icells .i64 (filled (coverL l n) k)) ∧ Below w.heap.size w wr) (fun i _ => n - (intOf i).toNat)
    case atStart => exact ⟨0, by omega, rfl, by rw [filled_zero, coverL_length, ← made_int]; exact hown2, hb12⟩
    case round =>
      obtain ⟨k, hk, rfl, hown, hb⟩ := hrel
      have Hown := hide hown; have Hb := hide hb; clear hown hb hown2 hb2 hb12 hb1
      have hsz := Hb1.out.size
      by_cases hlt : k < n
      · have hfs := filled_set (coverL l n) k (by rw [coverL_length]; exact hlt)
        rw [coverL_get _ _ _ hlt] at hfs
        have Hfs := hide hfs; clear hfs
        go_wp2_with fail
        refine (Hrow.out (k : Int) _ (Hr.out.go' Hb.out)).mono ?_
        rintro e w3 ⟨rfl, hb3⟩
        have hown3 := own_keep Hown.out hb3
        obtain ⟨old, hdst⟩ := own_at hown3 (j := k) (by omega)
        have hfr := hown3.frozenAt k
        have Hown3 := hide hown3; have Hb3 := hide (Hb.out.trans (hb3.mono Hb.out.size)); clear hown3 hb3
        generalize rowIx (k : Int) l 0 = x at *
        go_wp2
        go_roundw
        case rel =>
          refine ⟨k + 1, by omega, by go_num, ?_, Hb3.out.setCell hsz _⟩
          have := own_set Hown3.out k (.int .i64 x)
          rw [icells_set, Hfs.out] at this
          exact this
        case measure => simp [intOf]; omega
      · obtain rfl : k = n := by omega
        go_wp2
        go_ret2
        rw [Hp.out]
        have := filled_all (coverL l k)
        rw [coverL_length] at this
        exact ⟨_, rfl, by rw [coverL_length, ← this]; exact own_base Hown.out hsz, Hb.out⟩

theorem coverOf_len (l : List R3) (many : Int) (_ : l.length ≤ 1048576) : (coverOf l many).length ≤ 1048576 := by
  unfold coverOf
  split
  · rename_i h
    obtain ⟨_, h1, h2, _⟩ := small_of_good h
    rw [coverL_length]; omega
  · simp
end Go.Proofs.Ytheddnjhkcpmnaa
