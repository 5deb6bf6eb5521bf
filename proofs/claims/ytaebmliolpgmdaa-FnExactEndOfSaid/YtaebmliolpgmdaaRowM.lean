
/- Rows in memory: toRow, toRowS, eqRow, eqRowS, szRowS, markRowS, heldRowS. No condition. -/
import Derived.Test.YtaebmliolpgmdaaMem
import Derived.Test.YtaebmliolpgmdaaChecked
import Derived.Handy
import Derived.Deep.Light
import Derived.Deep.QuietTactic
import Derived.BigQuiet
import Derived.StillTailTactics
import Derived.Deep.RegionWith
set_option linter.unusedSimpArgs false
set_option linter.unusedVariables false
set_option maxRecDepth 100000
namespace Go.Proofs.Ytaebmliolpgmdaa
open Go.RowKit

structure R3 where
  f : Int
  t : Int
  p : Int
def R3.cell (r : R3) : List Value := [.int .i64 r.f, .int .i64 r.t, .int .i64 r.p]
def R3.agg (r : R3) : Value := .agg #[.int .i64 r.f, .int .i64 r.t, .int .i64 r.p]
def rcells (l : List R3) : List Value := l.flatMap R3.cell
theorem rcells_length (l : List R3) : (rcells l).length = l.length * 3 := by
  induction l with
  | nil => rfl
  | cons r l ih => simp only [rcells, List.flatMap_cons, List.length_append, List.length_cons] at *; rw [ih]; simp [R3.cell]; omega
theorem rcells_append (a b : List R3) : rcells (a ++ b) = rcells a ++ rcells b := by simp [rcells]
theorem rcells_cons (r : R3) (l : List R3) : rcells (r :: l) = .int .i64 r.f :: .int .i64 r.t :: .int .i64 r.p :: rcells l := rfl
theorem rcells_set : ∀ (l : List R3) (k : Nat) (r : R3), k < l.length → (((rcells l).set (k * 3) (.int .i64 r.f)).set (k * 3 + 1) (.int .i64 r.t)).set (k * 3 + 2) (.int .i64 r.p) = rcells (l.set k r) := by
  intro l
  induction l with
  | nil => intro k r h; simp at h
  | cons x l ih =>
    intro k r h
    cases k with
    | zero => simp [rcells_cons]
    | succ k =>
      have := ih k r (by simpa using h)
      rw [show (k + 1) * 3 = k * 3 + 1 + 1 + 1 by omega]
      simp only [rcells_cons, List.set_cons_succ]
      rw [← this]
theorem rcells_get (l : List R3) (k : Nat) (h : k < l.length) : (rcells l)[k * 3]? = some (.int .i64 l[k].f) ∧ (rcells l)[k * 3 + 1]? = some (.int .i64 l[k].t) ∧ (rcells l)[k * 3 + 2]? = some (.int .i64 l[k].p) := by
  have e : l = l.take k ++ (l[k] :: l.drop (k + 1)) := by rw [← List.drop_eq_getElem_cons h, List.take_append_drop]
  have hl : (rcells (l.take k)).length = k * 3 := by rw [rcells_length, List.length_take, Nat.min_eq_left (by omega)]
  have e2 : rcells l = rcells (l.take k) ++ (l[k].cell ++ rcells (l.drop (k + 1))) := by
    conv => lhs; rw [e]
    rw [rcells_append]; rfl
  rw [e2]
  refine ⟨?_, ?_, ?_⟩ <;> rw [List.getElem?_append_right (by omega), hl] <;> simp [R3.cell]

set_option maxHeartbeats 400000 in
theorem toRow (a b c : Int) (w : World) :
    Calls Try.prog 115 #[.agg #[.int .i64 a, .int .i64 b, .int .i64 c]] w fun e w' => e = .returned (.agg #[.int .i64 a, .int .i64 b, .int .i64 c]) ∧ Below w.heap.size w w' := by
  go_enter Try.func115, Try.ntmps115
  go_wp2
  go_returns
  exact ⟨rfl, by go_grown⟩

theorem okRow : SliceOk Try.prog 61 103 (.agg #[.int .i64 0, .int .i64 0, .int .i64 0]) 3 24 := .mk Try.underlying61 (by kernel_rfl) rfl (by decide)

set_option maxHeartbeats 400000 in
theorem toRowS (v : Value) (l : List R3) (w : World) (hr : Rd w w.heap.size v l.length (rcells l)) (hl : l.length ≤ 1048576) :
    Calls Try.prog 95 #[v] w fun e w' => ∃ v', e = .returned v' ∧ w'.ownsRow w.heap.size 103 3 v' l.length (rcells l) ∧ Below w.heap.size w w' := by
  obtain ⟨A, c, rfl, hn, hc, hcell⟩ := id hr
  have Hr := hide hr; clear hr hcell
  go_enter Try.func95, Try.ntmps95
  go_wp2_with (at_make; go_must (refine wpList_makeN rfl _ _ _ rfl okRow l.length rfl rfl (by omega) (by unfold maxLen; omega) ?_); intro w1 hown1 hb1)
  go_loopw [4] (fun i wr => ∃ k : Nat, k ≤ l.length ∧ i = .int .i64 k ∧ wr.ownsRow w.heap.size 103 3 (.slice (some ⟨w.heap.size, 0, none⟩) l.length l.length) l.length (rcells (filledA ⟨0, 0, 0⟩ l k)) ∧ Below w.heap.size w wr) (fun i _ => l.length - (intOf i).toNat)
  case atStart => exact ⟨0, by omega, rfl, by rw [filledA_zero]; have := made_cells #[.int .i64 0, .int .i64 0, .int .i64 0] l.length (by decide); rw [show rcells (List.replicate l.length ⟨0, 0, 0⟩) = (List.replicate l.length [.int .i64 0, .int .i64 0, .int .i64 0]).flatten by rw [rcells, List.flatMap_replicate]; rfl]; rw [← this]; exact hown1, hb1⟩
  case round =>
    obtain ⟨k, hk, rfl, hown, hb⟩ := hrel
    by_cases hlt : k < l.length
    · obtain ⟨g0, g1, g2⟩ := rcells_get l k hlt
      obtain ⟨b, o, rfl, hbB, s0⟩ := Hr.out.at3 g0
      obtain ⟨_, _, e, _, s1⟩ := Hr.out.at3 g1
      cases e
      obtain ⟨_, _, e, _, s2⟩ := Hr.out.at3 g2
      cases e
      have hs0 := (hb.cell (p := ⟨b, o + k * 3, none⟩) hbB).trans s0
      have hs1 := (hb.cell (p := ⟨b, o + (k * 3 + 1), none⟩) hbB).trans s1
      have hs2 := (hb.cell (p := ⟨b, o + (k * 3 + 2), none⟩) hbB).trans s2
      rw [← Nat.add_assoc] at hs1 hs2
      have Hown := hide hown; have Hb := hide hb; clear hown hb s0 s1 s2 g0 g1 g2 Hr hown1 hb1
      go_wp2_with fail
      refine (toRow _ _ _ _).mono ?_
      rintro e w2 ⟨rfl, hb2⟩
      have hown2 := own_keep Hown.out hb2
      obtain ⟨d0, hd0⟩ := own_at hown2 (j := k * 3) (by omega)
      obtain ⟨d1, hd1⟩ := own_at hown2 (j := k * 3 + 1) (by omega)
      obtain ⟨d2, hd2⟩ := own_at hown2 (j := k * 3 + 2) (by omega)
      have hf0 := hown2.frozenAt (k * 3)
      have hf1 := hown2.frozenAt (k * 3 + 1)
      have hf2 := hown2.frozenAt (k * 3 + 2)
      have Hown2 := hide hown2; have Hb2 := hide (Hb.out.trans (hb2.mono Hb.out.size)); clear hown2 hb2
      go_wp2
      go_roundw
      case rel =>
        refine ⟨k + 1, by omega, by go_num, ?_, ((Hb2.out.setCell (Nat.le_refl _) _).setCell (Nat.le_refl _) _).setCell (Nat.le_refl _) _⟩
        have := own_set (own_set (own_set Hown2.out (k * 3) (.int .i64 l[k].f)) (k * 3 + 1) (.int .i64 l[k].t)) (k * 3 + 2) (.int .i64 l[k].p)
        rw [rcells_set _ _ _ (by rw [filledA_length _ _ _ (by omega)]; exact hlt), filledA_set _ _ _ hlt] at this
        exact this
      case measure => simp [intOf]; omega
    · obtain rfl : k = l.length := by omega
      go_wp2
      go_ret
      exact ⟨_, rfl, by rw [filledA_all] at hown; exact hown, hb⟩

set_option maxHeartbeats 400000 in
theorem eqRow (a b c : Int) (w : World) :
    Calls Try.prog 124 #[.agg #[.int .i64 a, .int .i64 b, .int .i64 c], .agg #[.int .i64 a, .int .i64 b, .int .i64 c]] w fun e w' => e = .returned (.bool true) ∧ Below w.heap.size w w' := by
  go_enter Try.func124, Try.ntmps124
  go_wp2
  go_returns
  exact ⟨rfl, by go_grown⟩

set_option maxHeartbeats 400000 in
theorem eqRowS (v v2 : Value) (l : List R3) (w : World) (hr : Rd w w.heap.size v l.length (rcells l)) (hr2 : Rd w w.heap.size v2 l.length (rcells l)) (hl : l.length ≤ 9223372036854775807) :
    Calls Try.prog 109 #[v, v2] w fun e w' => e = .returned (.bool true) ∧ Below w.heap.size w w' := by
  obtain ⟨A, c, rfl, hn, hc, hcell⟩ := id hr
  obtain ⟨A2, c2, rfl, hn2, hc2, hcell2⟩ := id hr2
  have Hr := hide hr; have Hr2 := hide hr2; clear hr hr2 hcell hcell2
  go_enter Try.func109, Try.ntmps109
  go_wp2
  go_loopw [5] (fun i wr => ∃ k : Nat, k ≤ l.length ∧ i = .int .i64 k ∧ Below w.heap.size w wr) (fun i _ => l.length - (intOf i).toNat)
  case atStart => exact ⟨0, by omega, rfl, Below.refl _ _⟩
  case round =>
    obtain ⟨k, hk, rfl, hb⟩ := hrel
    by_cases hlt : k < l.length
    · obtain ⟨g0, g1, g2⟩ := rcells_get l k hlt
      obtain ⟨b, o, rfl, hbB, s0⟩ := Hr.out.at3 g0
      obtain ⟨_, _, e, _, s1⟩ := Hr.out.at3 g1
      cases e
      obtain ⟨_, _, e, _, s2⟩ := Hr.out.at3 g2
      cases e
      have hs0 := (hb.cell (p := ⟨b, o + k * 3, none⟩) hbB).trans s0
      have hs1 := (hb.cell (p := ⟨b, o + (k * 3 + 1), none⟩) hbB).trans s1
      have hs2 := (hb.cell (p := ⟨b, o + (k * 3 + 2), none⟩) hbB).trans s2
      rw [← Nat.add_assoc] at hs1 hs2
      obtain ⟨b2, o2, rfl, hbB2, s0'⟩ := Hr2.out.at3 g0
      obtain ⟨_, _, e, _, s1'⟩ := Hr2.out.at3 g1
      cases e
      obtain ⟨_, _, e, _, s2'⟩ := Hr2.out.at3 g2
      cases e
      have hz0 := (hb.cell (p := ⟨b2, o2 + k * 3, none⟩) hbB2).trans s0'
      have hz1 := (hb.cell (p := ⟨b2, o2 + (k * 3 + 1), none⟩) hbB2).trans s1'
      have hz2 := (hb.cell (p := ⟨b2, o2 + (k * 3 + 2), none⟩) hbB2).trans s2'
      rw [← Nat.add_assoc] at hz1 hz2
      have Hb := hide hb; clear hb s0 s1 s2 g0 g1 g2 Hr Hr2 s0' s1' s2'
      go_wp2_with fail
      go_still_tail 8, (by kernel_rfl)
      change wpList _ _ _ _ _ wr.drew
      go_wp2_with (go_at_call 124; refine (eqRow _ _ _ _).mono ?_; rintro e w2 ⟨rfl, hb2⟩)
      go_roundw
      case rel => exact ⟨k + 1, by omega, by go_num, (Hb.out.drew).trans (hb2.mono Hb.out.size)⟩
      case measure => simp [intOf]; omega
    · obtain rfl : k = l.length := by omega
      go_wp2
      go_ret
      exact ⟨rfl, hb⟩
theorem szRowS (v : Value) (n : Nat) (cs : List Value) (left : Int) (w : World) (B : Nat) (hr : Rd w B v n cs) (h1 : 0 ≤ left) (h2 : left ≤ 4611686018427387904) :
    Calls Try.prog 88 #[v, .int .i64 left] w fun e w' => e = .returned (.int .i64 (if (n : Int) ≤ left then left - n else -1)) ∧ w = w' := by
  obtain ⟨A, c, rfl, hn, hc, hcell⟩ := id hr
  have hn' : n ≤ 9223372036854775807 := by unfold maxLen at hc; omega
  clear hcell hr hn hc
  by_cases g : (n : Int) ≤ left
  all_goals
    go_enter Try.func88, Try.ntmps88
    go_wp2
    all_goals first
      | (exfalso; omega)
      | (go_ret
         exact ⟨retI (by first | rfl | omega | rw [if_pos g] | rw [if_neg (by omega)]), rfl⟩)

end Go.Proofs.Ytaebmliolpgmdaa
