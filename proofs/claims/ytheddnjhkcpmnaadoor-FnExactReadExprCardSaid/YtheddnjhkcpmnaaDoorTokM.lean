
/- Tok in memory: what toTok, toTokS, eqTok, eqTokS, szTokS, markTokS, heldTokS do. No condition. -/
import Derived.Test.YtheddnjhkcpmnaaDoorP2
import Derived.Test.YtheddnjhkcpmnaaDoorChecked
import Derived.Handy
import Derived.Deep.Light
import Derived.Deep.QuietTactic
import Derived.BigQuiet
import Derived.StillTailTactics
import Derived.Deep.RegionWith
set_option linter.unusedSimpArgs false
set_option linter.unusedVariables false
set_option maxRecDepth 100000
namespace Go.Proofs.YtheddnjhkcpmnaaDoor
open Go.RowKit

theorem okTok : SliceOk Tryd.prog 41 62 (.agg #[.int .i64 0, .int .i64 0]) 2 16 := .mk Tryd.underlying41 (by kernel_rfl) rfl (by decide)

set_option maxHeartbeats 400000 in
theorem toTok (a b : Int) (w : World) :
    Calls Tryd.prog 44 #[.agg #[.int .i64 a, .int .i64 b]] w fun e w' => e = .returned (.agg #[.int .i64 a, .int .i64 b]) ∧ Below w.heap.size w w' := by
  go_enter Tryd.func44, Tryd.ntmps44
  go_wp2
  go_returns
  exact ⟨rfl, by go_grown⟩

set_option maxHeartbeats 400000 in
theorem toTokS (v : Value) (l : List P2) (w : World) (hr : Rd w w.heap.size v l.length (pcells l)) (hl : l.length ≤ 1048576) :
    Calls Tryd.prog 17 #[v] w fun e w' => ∃ v', e = .returned v' ∧ w'.ownsRow w.heap.size 62 2 v' l.length (pcells l) ∧ Below w.heap.size w w' := by
  obtain ⟨A, c, rfl, hn, hc, hcell⟩ := id hr
  have Hr := hide hr; clear hr hcell
  go_enter Tryd.func17, Tryd.ntmps17
  go_wp2_with (at_make; go_must (refine wpList_makeN rfl _ _ _ rfl okTok l.length rfl rfl (by omega) (by unfold maxLen; omega) ?_); intro w1 hown1 hb1)
  go_loopw [4] (fun i wr => ∃ k : Nat, k ≤ l.length ∧ i = .int .i64 k ∧ wr.ownsRow w.heap.size 62 2 (.slice (some ⟨w.heap.size, 0, none⟩) l.length l.length) l.length (pcells (filledA ⟨0, 0⟩ l k)) ∧ Below w.heap.size w wr) (fun i _ => l.length - (intOf i).toNat)
  case atStart => exact ⟨0, by omega, rfl, by rw [filledA_zero]; have := made_cells #[.int .i64 0, .int .i64 0] l.length (by decide); rw [show pcells (List.replicate l.length ⟨0, 0⟩) = (List.replicate l.length [.int .i64 0, .int .i64 0]).flatten by rw [pcells, List.flatMap_replicate]; rfl]; rw [← this]; exact hown1, hb1⟩
  case round =>
    obtain ⟨k, hk, rfl, hown, hb⟩ := hrel
    by_cases hlt : k < l.length
    · obtain ⟨b, o, rfl, hbB, hs0, hs1⟩ := Hr.out.two' hb (Nat.le_refl _) hlt
      have Hown := hide hown; have Hb := hide hb; clear hown hb Hr hown1 hb1
      go_wp2_with fail
      refine (toTok _ _ _).mono ?_
      rintro e w2 ⟨rfl, hb2⟩
      have hown2 := own_keep Hown.out hb2
      obtain ⟨d0, hd0⟩ := own_at hown2 (j := k * 2) (by omega)
      obtain ⟨d1, hd1⟩ := own_at hown2 (j := k * 2 + 1) (by omega)
      have hf0 := hown2.frozenAt (k * 2)
      have hf1 := hown2.frozenAt (k * 2 + 1)
      have Hown2 := hide hown2; have Hb2 := hide (Hb.out.trans (hb2.mono Hb.out.size)); clear hown2 hb2
      go_wp2
      go_roundw
      case rel =>
        refine ⟨k + 1, by omega, by go_num, ?_, (Hb2.out.setCell (Nat.le_refl _) _).setCell (Nat.le_refl _) _⟩
        have := own_set (own_set Hown2.out (k * 2) (.int .i64 l[k].o)) (k * 2 + 1) (.int .i64 l[k].n)
        rw [pcells_set _ _ _ (by rw [filledA_length _ _ _ (by omega)]; exact hlt), filledA_set _ _ _ hlt] at this
        exact this
      case measure => simp [intOf]; omega
    · obtain rfl : k = l.length := by omega
      go_wp2
      go_ret
      exact ⟨_, rfl, by rw [filledA_all] at hown; exact hown, hb⟩

set_option maxHeartbeats 400000 in
theorem eqTok (a b : Int) (w : World) :
    Calls Tryd.prog 49 #[.agg #[.int .i64 a, .int .i64 b], .agg #[.int .i64 a, .int .i64 b]] w fun e w' => e = .returned (.bool true) ∧ Below w.heap.size w w' := by
  go_enter Tryd.func49, Tryd.ntmps49
  go_wp2
  go_returns
  exact ⟨rfl, by go_grown⟩

set_option maxHeartbeats 400000 in
theorem eqTokS (v v2 : Value) (l : List P2) (w : World) (hr : Rd w w.heap.size v l.length (pcells l)) (hr2 : Rd w w.heap.size v2 l.length (pcells l)) (hl : l.length ≤ 9223372036854775807) :
    Calls Tryd.prog 19 #[v, v2] w fun e w' => e = .returned (.bool true) ∧ Below w.heap.size w w' := by
  obtain ⟨A, c, rfl, hn, hc, hcell⟩ := id hr
  obtain ⟨A2, c2, rfl, hn2, hc2, hcell2⟩ := id hr2
  have Hr := hide hr; have Hr2 := hide hr2; clear hr hr2 hcell hcell2
  go_enter Tryd.func19, Tryd.ntmps19
  go_wp2
  go_loopw [5] (fun i wr => ∃ k : Nat, k ≤ l.length ∧ i = .int .i64 k ∧ Below w.heap.size w wr) (fun i _ => l.length - (intOf i).toNat)
  case atStart => exact ⟨0, by omega, rfl, Below.refl _ _⟩
  case round =>
    obtain ⟨k, hk, rfl, hb⟩ := hrel
    by_cases hlt : k < l.length
    · obtain ⟨b, o, rfl, hbB, hs0, hs1⟩ := Hr.out.two' hb (Nat.le_refl _) hlt
      obtain ⟨b2, o2, rfl, hbB2, hz0, hz1⟩ := Hr2.out.two' hb (Nat.le_refl _) hlt
      have Hb := hide hb; clear hb Hr Hr2
      go_wp2_with fail
      go_still_tail 8, (by kernel_rfl)
      change wpList _ _ _ _ _ wr.drew
      go_wp2_with (go_at_call 49; refine (eqTok _ _ _).mono ?_; rintro e w2 ⟨rfl, hb2⟩)
      go_roundw
      case rel => exact ⟨k + 1, by omega, by go_num, (Hb.out.drew).trans (hb2.mono Hb.out.size)⟩
      case measure => simp [intOf]; omega
    · obtain rfl : k = l.length := by omega
      go_wp2
      go_ret
      exact ⟨rfl, hb⟩

theorem szTokS (v : Value) (n : Nat) (cs : List Value) (left : Int) (w : World) (B : Nat) (hr : Rd w B v n cs) (h1 : 0 ≤ left) (h2 : left ≤ 4611686018427387904) :
    Calls Tryd.prog 15 #[v, .int .i64 left] w fun e w' => e = .returned (.int .i64 (if (n : Int) ≤ left then left - n else -1)) ∧ w = w' := by
  obtain ⟨A, c, rfl, hn, hc, hcell⟩ := id hr
  have hn' : n ≤ 9223372036854775807 := by unfold maxLen at hc; omega
  clear hcell hr hn hc
  by_cases g : (n : Int) ≤ left
  all_goals
    go_enter Tryd.func15, Tryd.ntmps15
    go_wp2
    all_goals first
      | (exfalso; omega)
      | (go_ret
         exact ⟨retI (by first | rfl | omega | rw [if_pos g] | rw [if_neg (by omega)]), rfl⟩)

set_option maxHeartbeats 800000 in
theorem markTokS (v : Value) (l : List P2) (k0 : Int) (w : World) (base : Nat) (hown : w.ownsRow base 62 2 v l.length (pcells l)) (hk : 0 ≤ k0) (hk2 : k0 + 2 * l.length ≤ 4000000000000000000) :
    Calls Tryd.prog 22 #[v, .int .i64 k0] w fun e w' => e = .returned (.int .i64 (k0 + 2 * l.length)) ∧ w'.ownsRow base 62 2 v l.length (pcells (iotaP k0 l.length)) ∧ w.grownBy w' v.ownBlock := by
  rcases id hown.2 with ⟨rfl, h0⟩ | ⟨g, cap, cur, rfl, hg, hh, hn, hc, _⟩
  · obtain rfl := List.eq_nil_of_length_eq_zero h0
    go_enter Tryd.func22, Tryd.ntmps22
    go_wp2
    go_rounds 1
    go_ret
    exact ⟨retI (by simp), World.ownsRow_nil _ _ _ _, World.grownBy.refl _ _⟩
  · have Hown := hide hown; clear hown hh
    go_enter Tryd.func22, Tryd.ntmps22
    go_wp2
    go_loopw [1, 5] (fun c i wr => ∃ j : Nat, j ≤ l.length ∧ i = .int .i64 j ∧ c = .int .i64 (k0 + 2 * j) ∧ wr.ownsRow base 62 2 (.slice (some ⟨g, 0, none⟩) l.length cap) l.length (pcells (iotaP k0 j ++ l.drop j)) ∧ w.grownBy wr (some g)) (fun _ i _ => l.length - (intOf i).toNat)
    case atStart => exact ⟨0, by omega, rfl, by simp, by simpa [iotaP] using Hown.out, World.grownBy.refl _ _⟩
    case round =>
      obtain ⟨j, hj, rfl, rfl, hown, hgr⟩ := hrel
      by_cases hlt : j < l.length
      · obtain ⟨d0, hd0⟩ := own_at hown (j := j * 2) (by omega)
        obtain ⟨d1, hd1⟩ := own_at hown (j := j * 2 + 1) (by omega)
        have hf0 := hown.frozenAt (j * 2)
        have hf1 := hown.frozenAt (j * 2 + 1)
        have Ho := hide hown; have Hg := hide hgr; clear hown hgr
        go_wp2
        go_roundw
        case rel =>
          refine ⟨j + 1, by omega, by go_num, by go_num, ?_, grown_setP (grown_setP Hg.out rfl _) rfl _⟩
          have := own_set (own_set Ho.out (j * 2) (.int .i64 (k0 + 2 * j))) (j * 2 + 1) (.int .i64 (k0 + 2 * j + 1))
          have e := pcells_set (iotaP k0 j ++ l.drop j) j ⟨k0 + 2 * (j : Int), k0 + 2 * (j : Int) + 1⟩ (by rw [List.length_append, iotaP_length, List.length_drop]; omega)
          rw [e, markP_set _ _ _ hlt] at this
          exact this
        case measure => simp [intOf]; omega
      · obtain rfl : j = l.length := by omega
        rw [List.drop_length, List.append_nil] at hown
        have Ho := hide hown; have Hg := hide hgr; clear hown hgr
        go_wp2
        go_ret
        exact ⟨rfl, Ho.out, Hg.out⟩

set_option maxHeartbeats 800000 in
theorem heldTokS (v : Value) (n : Nat) (k0 : Int) (w : World) (B : Nat) (hr : Rd w B v n (pcells (iotaP k0 n))) (hk : 0 ≤ k0) (hk2 : k0 + 2 * n ≤ 4000000000000000000) :
    Calls Tryd.prog 23 #[v, .int .i64 k0] w fun e w' => e = .returned (.int .i64 (k0 + 2 * n)) ∧ w = w' := by
  obtain ⟨A, c, rfl, hn, hc, hcell⟩ := id hr
  have Hr := hide hr; clear hr hcell
  go_enter Tryd.func23, Tryd.ntmps23
  go_wp2
  go_loop [1, 5] (fun c i => ∃ j : Nat, j ≤ n ∧ i = .int .i64 j ∧ c = .int .i64 (k0 + 2 * j)) (fun _ i => n - (intOf i).toNat)
  case atStart => exact ⟨0, by omega, rfl, by simp⟩
  case round =>
    obtain ⟨j, hj, rfl, rfl⟩ := hrel
    by_cases hlt : j < n
    · obtain ⟨g0, g1⟩ := pcells_get (iotaP k0 n) j (by rw [iotaP_length]; exact hlt)
      rw [iotaP_get _ _ _ hlt] at g0 g1
      obtain ⟨b, o, rfl, hbB, s0⟩ := Hr.out.at3 g0
      obtain ⟨_, _, e, _, s1⟩ := Hr.out.at3 g1
      cases e
      rw [← Nat.add_assoc] at s1
      clear Hr g0 g1
      go_wp2
      go_round
      case rel => exact ⟨j + 1, by omega, by go_num, by go_num⟩
      case measure => simp [intOf]; omega
    · obtain rfl : j = n := by omega
      go_wp2
      go_ret
      exact ⟨rfl, rfl⟩
end Go.Proofs.YtheddnjhkcpmnaaDoor
