
/- JoinRows: what the Go text returns. No condition. -/
import Derived.Test.YtheddnjhkcpmnaaPf
import Derived.Test.YtheddnjhkcpmnaaMem
import Derived.Deep.RegionWith
set_option linter.unusedSimpArgs false
set_option linter.unusedVariables false
set_option maxRecDepth 100000
namespace Go.Proofs.Ytheddnjhkcpmnaa
open Go.RowKit

def joinOne (acc : List R3) (r : R3) : List R3 :=
  match acc.getLast? with
  | some x => if x.t = r.f ∧ x.p = r.p then acc.dropLast ++ [⟨x.f, r.t, x.p⟩] else acc ++ [r]
  | none => acc ++ [r]
def joinL (l : List R3) : List R3 := l.foldl joinOne []
theorem joinOne_nil (r : R3) : joinOne [] r = [r] := rfl
theorem joinOne_yes {a : List R3} {x r : R3} (h : x.t = r.f) (h2 : x.p = r.p) : joinOne (a ++ [x]) r = a ++ [⟨x.f, r.t, x.p⟩] := by simp [joinOne, h, h2]
theorem joinOne_no {a : List R3} {x r : R3} (h : ¬ (x.t = r.f ∧ x.p = r.p)) : joinOne (a ++ [x]) r = a ++ [x] ++ [r] := by
  unfold joinOne
  rw [List.getLast?_append]
  simp [h]
theorem join_step {l acc : List R3} {k : Nat} (h : k < l.length) (e : (l.drop k).foldl joinOne acc = joinL l) : (l.drop (k + 1)).foldl joinOne (joinOne acc l[k]) = joinL l := by
  rw [List.drop_eq_getElem_cons h, List.foldl_cons] at e; exact e
def joinRows (l : List R3) (many : Int) : List R3 := if goodRows l many = true then joinL l else []
theorem joinOne_len (acc : List R3) (r : R3) : (joinOne acc r).length ≤ acc.length + 1 := by
  unfold joinOne
  split
  · split
    · simp; try omega
    · simp
  · simp
theorem foldl_len : ∀ (l acc : List R3), (l.foldl joinOne acc).length ≤ acc.length + l.length := by
  intro l
  induction l with
  | nil => intro acc; simp
  | cons r l ih => intro acc; have := ih (joinOne acc r); have := joinOne_len acc r; simp only [List.foldl_cons, List.length_cons]; omega
theorem joinRows_len (l : List R3) (many : Int) (h : l.length ≤ 1048576) : (joinRows l many).length ≤ 1048576 := by
  unfold joinRows
  split
  · have := foldl_len l []; unfold joinL; simp at this; omega
  · simp
theorem rcells_set_t (a : List R3) (x : R3) (t : Int) : (rcells (a ++ [x])).set (a.length * 3 + 1) (.int .i64 t) = rcells (a ++ [⟨x.f, t, x.p⟩]) := by
  rw [rcells_append, rcells_append, List.set_append, if_neg (by rw [rcells_length]; omega), rcells_length, show a.length * 3 + 1 - a.length * 3 = 1 by omega]
  rfl

set_option maxHeartbeats 1600000 in
theorem spec_JoinRows (v : Value) (l : List R3) (many : Int) (w : World) (hr : Rd w w.heap.size v l.length (rcells l)) (hl : l.length ≤ 9223372036854775807) :
    Calls Try.prog 46 #[v, .int .i64 many] w fun e w' => ∃ v', e = .returned (.tuple #[v', .bool (goodRows l many)]) ∧ w'.ownsRow w.heap.size 72 3 v' (joinRows l many).length (rcells (joinRows l many)) ∧ Below w.heap.size w w' := by
  obtain ⟨A, c, rfl, hn, hc, hcell⟩ := id hr
  have hgood := fun w h => spec_l7Good (.slice A l.length c) l many w h hl
  have Hr := hide hr; clear hr hcell
  cases hg : goodRows l many
  · rw [hg] at hgood
    have Hp : Hid (joinRows l many = []) := by unfold Hid joinRows; rw [hg]; rfl
    have Hgood := hide hgood; clear hgood hg
    go_enter Try.func46, Try.ntmps46
    go_wp2_with (go_at_call 97; refine (Hgood.out _ Hr.out).mono ?_; rintro e w1 ⟨rfl, hb1⟩)
    go_ret2
    rw [Hp.out]
    exact ⟨_, rfl, World.ownsRow_nil _ _ _ _, hb1⟩
  · obtain ⟨hsm, g1, g2, g3⟩ := small_of_good hg
    have Hp : Hid (joinRows l many = joinL l) := by unfold Hid joinRows; rw [hg]; rfl
    rw [hg] at hgood
    have Hgood := hide hgood; clear hgood hg hsm
    go_enter Try.func46, Try.ntmps46
    go_wp2_with (go_at_call 97; refine (Hgood.out _ Hr.out).mono ?_; rintro e w1 ⟨rfl, hb1⟩)
    go_loopw [6, 16] (fun out i wr => ∃ (k : Nat) (acc : List R3), k ≤ l.length ∧ i = .int .i64 k ∧ acc.length ≤ k ∧ (l.drop k).foldl joinOne acc = joinL l ∧ wr.ownsRow w.heap.size 72 3 out acc.length (rcells acc) ∧ Below w.heap.size w wr) (fun _ i _ => l.length - (intOf i).toNat)
    case atStart => exact ⟨0, [], by omega, rfl, by simp, rfl, World.ownsRow_nil _ _ _ _, hb1⟩
    case round =>
      obtain ⟨k, acc, hk, rfl, hacc, hfold, hown, hb⟩ := hrel
      by_cases hlt : k < l.length
      · obtain ⟨g0, g1', g2'⟩ := rcells_get l k hlt
        obtain ⟨b, o, rfl, hbB, s0⟩ := Hr.out.at3 g0
        obtain ⟨_, _, e, _, s1⟩ := Hr.out.at3 g1'
        cases e
        obtain ⟨_, _, e, _, s2⟩ := Hr.out.at3 g2'
        cases e
        have hs0 := (hb.cell (p := ⟨b, o + k * 3, none⟩) hbB).trans s0
        have hs1 := (hb.cell (p := ⟨b, o + (k * 3 + 1), none⟩) hbB).trans s1
        have hs2 := (hb.cell (p := ⟨b, o + (k * 3 + 2), none⟩) hbB).trans s2
        rw [← Nat.add_assoc] at hs1 hs2
        have Hstep := hide (join_step hlt hfold)
        have Hb := hide hb
        clear s0 s1 s2 g0 g1' g2' Hr Hgood hb hfold hb1
        generalize l[k] = r at *
        rcases List.eq_nil_or_concat acc with rfl | ⟨a, x, hax⟩
        · obtain ⟨A1, c1, rfl⟩ := own_form hown
          have Hown := hide hown; clear hown
          go_wp2_with fail
          go_quiet (fail)
          have Hb2 := hide (below_drewN (Hb.out.alloc Hb.out.size (.cells #[.int .i64 r.f, .int .i64 r.t, .int .i64 r.p] 72)) nq)
          have Hown2 := hide (own_drew (own_keep Hown.out ((Below.refl _ _).alloc (Nat.le_refl _) (.cells #[.int .i64 r.f, .int .i64 r.t, .int .i64 r.p] 72))) nq)
          have kb := (Bk.new wr 72 #[.int .i64 r.f, .int .i64 r.t, .int .i64 r.p]).drewN nq
          generalize (wr.alloc (.cells #[.int .i64 r.f, .int .i64 r.t, .int .i64 r.p] 72)).drewN nq = W at *
          have k0 : W.cell? ⟨wr.heap.size, 0, none⟩ = some (.int .i64 r.f) := kb.cell 0
          have k1 : W.cell? ⟨wr.heap.size, 1, none⟩ = some (.int .i64 r.t) := kb.cell 1
          have k2 : W.cell? ⟨wr.heap.size, 2, none⟩ = some (.int .i64 r.p) := kb.cell 2
          have Kb := hide kb; clear kb
          go_wp2_with (at_builtin; refine wpList_push rfl _ _ _ rfl okRow rfl Hown2.out _ rfl rfl (by simp [Value.oneCell']) (by unfold maxLen; omega) (by omega) Hb2.out.size ?_; intro v3 w3 hown3 hg3)
          go_roundw
          case rel => exact ⟨k + 1, [r], by omega, by go_num, by simp, Hstep.out, hown3, belowPush Hb2.out Hown2.out Hb2.out.size hg3⟩
          case measure => simp [intOf]; omega
        · rw [List.concat_eq_append] at hax
          subst hax
          have hal : a.length + 1 ≤ k := by simpa using hacc
          obtain ⟨q0, q1, q2⟩ := rcells_get (a ++ [x]) a.length (by simp)
          rw [List.getElem_append_right (Nat.le_refl _)] at q0 q1 q2
          simp only [Nat.sub_self, List.getElem_cons_zero] at q0 q1 q2
          rw [List.length_append, List.length_singleton] at hown
          obtain ⟨g, cap, rfl⟩ := own_some hown (by omega)
          have hgB := (hown.lt g rfl).1
          have Hown2 := hide (own_keep hown ((Below.refl _ _).alloc (Nat.le_refl _) (.cells #[.int .i64 r.f, .int .i64 r.t, .int .i64 r.p] 72)))
          have hx1 := (Hown2.out.cellAt (a.length * 3 + 1) (by omega)).trans q1
          have hx2 := (Hown2.out.cellAt (a.length * 3 + 2) (by omega)).trans q2
          have hf1 := Hown2.out.frozenAt (a.length * 3 + 1)
          have Hst := hide (rcells_set_t a x r.t)
          have hyes := fun h h2 => joinOne_yes (a := a) (x := x) (r := r) h h2
          have hno := fun h => joinOne_no (a := a) (x := x) (r := r) h
          clear q0 q1 q2 hown hacc
          have Hb2 := hide (Hb.out.alloc Hb.out.size (.cells #[.int .i64 r.f, .int .i64 r.t, .int .i64 r.p] 72))
          by_cases c1 : x.t = r.f
          · by_cases c2 : x.p = r.p
            · have Hj := hide (hyes c1 c2); clear hyes hno
              have b1 : (x.t == r.f) = true := by rw [beq_iff_eq]; exact c1
              have b2 : (x.p == r.p) = true := by rw [beq_iff_eq]; exact c2
              clear c1 c2
              go_wp2_with fail
              go_quiet (fail)
              have Hb3 := hide (below_drewN Hb2.out nq)
              have Hown3 := hide (own_drew Hown2.out nq)
              have kb := (Bk.new wr 72 #[.int .i64 r.f, .int .i64 r.t, .int .i64 r.p]).drewN nq
              generalize (wr.alloc (.cells #[.int .i64 r.f, .int .i64 r.t, .int .i64 r.p] 72)).drewN nq = W at *
              have k0 : W.cell? ⟨wr.heap.size, 0, none⟩ = some (.int .i64 r.f) := kb.cell 0
              have k1 : W.cell? ⟨wr.heap.size, 1, none⟩ = some (.int .i64 r.t) := kb.cell 1
              have k2 : W.cell? ⟨wr.heap.size, 2, none⟩ = some (.int .i64 r.p) := kb.cell 2
              have Kb := hide kb; clear kb
              have hfz : W.frozen? ⟨g, a.length * 3 + 1, none⟩ = false := Hown3.out.frozenAt _
              have hol : ∃ u, W.cell? ⟨g, a.length * 3 + 1, none⟩ = some u := own_at Hown3.out (by omega)
              obtain ⟨old, hol⟩ := hol
              go_wp2
              go_roundw
              case rel =>
                refine ⟨k + 1, a ++ [⟨x.f, r.t, x.p⟩], by omega, by go_num, by simp; omega, by rw [← Hj.out]; exact Hstep.out, ?_, Hb3.out.setCell hgB _⟩
                have := own_set Hown3.out (a.length * 3 + 1) (.int .i64 r.t)
                rw [Hst.out] at this
                rw [List.length_append, List.length_singleton]
                exact this
              case measure => simp [intOf]; omega
            · have Hj := hide (hno (fun h => c2 h.2)); clear hyes hno
              have b1 : (x.t == r.f) = true := by rw [beq_iff_eq]; exact c1
              have b2 : (x.p == r.p) = false := by rw [beq_eq_false_iff_ne]; exact c2
              clear c1 c2
              go_wp2_with fail
              go_quiet (fail)
              have Hb3 := hide (below_drewN Hb2.out nq)
              have Hown3 := hide (own_drew Hown2.out nq)
              have kb := (Bk.new wr 72 #[.int .i64 r.f, .int .i64 r.t, .int .i64 r.p]).drewN nq
              generalize (wr.alloc (.cells #[.int .i64 r.f, .int .i64 r.t, .int .i64 r.p] 72)).drewN nq = W at *
              have k0 : W.cell? ⟨wr.heap.size, 0, none⟩ = some (.int .i64 r.f) := kb.cell 0
              have k1 : W.cell? ⟨wr.heap.size, 1, none⟩ = some (.int .i64 r.t) := kb.cell 1
              have k2 : W.cell? ⟨wr.heap.size, 2, none⟩ = some (.int .i64 r.p) := kb.cell 2
              have Kb := hide kb; clear kb
              go_wp2_with (at_builtin; refine wpList_push rfl _ _ _ rfl okRow rfl Hown3.out _ rfl rfl (by simp [Value.oneCell']) (by unfold maxLen; omega) (by omega) Hb3.out.size ?_; intro v3 w3 hown3 hg3)
              go_roundw
              case rel => exact ⟨k + 1, a ++ [x] ++ [r], by omega, by go_num, by simp; omega, by rw [← Hj.out]; exact Hstep.out, by rw [List.length_append, List.length_append, List.length_singleton, List.length_singleton, rcells_append]; exact hown3, belowPush Hb3.out Hown3.out Hb3.out.size hg3⟩
              case measure => simp [intOf]; omega
          · have Hj := hide (hno (fun h => c1 h.1)); clear hyes hno
            have b1 : (x.t == r.f) = false := by rw [beq_eq_false_iff_ne]; exact c1
            clear c1
            go_wp2_with fail
            go_quiet (fail)
            have Hb3 := hide (below_drewN Hb2.out nq)
            have Hown3 := hide (own_drew Hown2.out nq)
            have kb := (Bk.new wr 72 #[.int .i64 r.f, .int .i64 r.t, .int .i64 r.p]).drewN nq
            generalize (wr.alloc (.cells #[.int .i64 r.f, .int .i64 r.t, .int .i64 r.p] 72)).drewN nq = W at *
            have k0 : W.cell? ⟨wr.heap.size, 0, none⟩ = some (.int .i64 r.f) := kb.cell 0
            have k1 : W.cell? ⟨wr.heap.size, 1, none⟩ = some (.int .i64 r.t) := kb.cell 1
            have k2 : W.cell? ⟨wr.heap.size, 2, none⟩ = some (.int .i64 r.p) := kb.cell 2
            have Kb := hide kb; clear kb
            go_wp2_with (at_builtin; refine wpList_push rfl _ _ _ rfl okRow rfl Hown3.out _ rfl rfl (by simp [Value.oneCell']) (by unfold maxLen; omega) (by omega) Hb3.out.size ?_; intro v3 w3 hown3 hg3)
            go_roundw
            case rel => exact ⟨k + 1, a ++ [x] ++ [r], by omega, by go_num, by simp; omega, by rw [← Hj.out]; exact Hstep.out, by rw [List.length_append, List.length_append, List.length_singleton, List.length_singleton, rcells_append]; exact hown3, belowPush Hb3.out Hown3.out Hb3.out.size hg3⟩
            case measure => simp [intOf]; omega
      · obtain rfl : k = l.length := by omega
        rw [List.drop_length] at hfold
        have Hfold := hide hfold
        clear hfold
        go_wp2
        go_ret2
        rw [Hp.out, ← Hfold.out]
        exact ⟨_, rfl, hown, hb⟩
end Go.Proofs.Ytheddnjhkcpmnaa
set_option linter.unusedSimpArgs false
set_option linter.unusedVariables false
set_option maxRecDepth 100000
namespace Go.Proofs.Ytheddnjhkcpmnaa
open Go.RowKit

set_option maxHeartbeats 1600000 in
theorem impl_JoinRows (v : Value) (l : List R3) (many : Int) (w : World) (hr : Rd w w.heap.size v l.length (rcells l)) (hl : l.length ≤ 9223372036854775807) :
    Calls Try.prog 45 #[v, .int .i64 many] w fun e w' => ∃ v', e = .returned (.tuple #[v', .bool (goodRows l many)]) ∧ w'.ownsRow w.heap.size 72 3 v' (joinRows l many).length (rcells (joinRows l many)) ∧ Below w.heap.size w w' := by
  obtain ⟨A, c, rfl, hn, hc, hcell⟩ := id hr
  have hgood := fun w h => impl_GoodRows (.slice A l.length c) l many w h hl
  have Hr := hide hr; clear hr hcell
  cases hg : goodRows l many
  · rw [hg] at hgood
    have Hp : Hid (joinRows l many = []) := by unfold Hid joinRows; rw [hg]; rfl
    have Hgood := hide hgood; clear hgood hg
    go_enter Try.func45, Try.ntmps45
    go_wp2_with (go_at_call 50; refine (Hgood.out _ Hr.out).mono ?_; rintro e w1 ⟨rfl, hb1⟩)
    go_ret2
    rw [Hp.out]
    exact ⟨_, rfl, World.ownsRow_nil _ _ _ _, hb1⟩
  · obtain ⟨hsm, g1, g2, g3⟩ := small_of_good hg
    have Hp : Hid (joinRows l many = joinL l) := by unfold Hid joinRows; rw [hg]; rfl
    rw [hg] at hgood
    have Hgood := hide hgood; clear hgood hg hsm
    go_enter Try.func45, Try.ntmps45
    go_wp2_with (go_at_call 50; refine (Hgood.out _ Hr.out).mono ?_; rintro e w1 ⟨rfl, hb1⟩)
    go_loopw [6, 16] (fun out i wr => ∃ (k : Nat) (acc : List R3), k ≤ l.length ∧ i = .int .i64 k ∧ acc.length ≤ k ∧ (l.drop k).foldl joinOne acc = joinL l ∧ wr.ownsRow w.heap.size 72 3 out acc.length (rcells acc) ∧ Below w.heap.size w wr) (fun _ i _ => l.length - (intOf i).toNat)
    case atStart => exact ⟨0, [], by omega, rfl, by simp, rfl, World.ownsRow_nil _ _ _ _, hb1⟩
    case round =>
      obtain ⟨k, acc, hk, rfl, hacc, hfold, hown, hb⟩ := hrel
      by_cases hlt : k < l.length
      · obtain ⟨g0, g1', g2'⟩ := rcells_get l k hlt
        obtain ⟨b, o, rfl, hbB, s0⟩ := Hr.out.at3 g0
        obtain ⟨_, _, e, _, s1⟩ := Hr.out.at3 g1'
        cases e
        obtain ⟨_, _, e, _, s2⟩ := Hr.out.at3 g2'
        cases e
        have hs0 := (hb.cell (p := ⟨b, o + k * 3, none⟩) hbB).trans s0
        have hs1 := (hb.cell (p := ⟨b, o + (k * 3 + 1), none⟩) hbB).trans s1
        have hs2 := (hb.cell (p := ⟨b, o + (k * 3 + 2), none⟩) hbB).trans s2
        rw [← Nat.add_assoc] at hs1 hs2
        have Hstep := hide (join_step hlt hfold)
        have Hb := hide hb
        clear s0 s1 s2 g0 g1' g2' Hr Hgood hb hfold hb1
        generalize l[k] = r at *
        rcases List.eq_nil_or_concat acc with rfl | ⟨a, x, hax⟩
        · obtain ⟨A1, c1, rfl⟩ := own_form hown
          have Hown := hide hown; clear hown
          go_wp2_with fail
          go_quiet (fail)
          have Hb2 := hide (below_drewN (Hb.out.alloc Hb.out.size (.cells #[.int .i64 r.f, .int .i64 r.t, .int .i64 r.p] 72)) nq)
          have Hown2 := hide (own_drew (own_keep Hown.out ((Below.refl _ _).alloc (Nat.le_refl _) (.cells #[.int .i64 r.f, .int .i64 r.t, .int .i64 r.p] 72))) nq)
          have kb := (Bk.new wr 72 #[.int .i64 r.f, .int .i64 r.t, .int .i64 r.p]).drewN nq
          generalize (wr.alloc (.cells #[.int .i64 r.f, .int .i64 r.t, .int .i64 r.p] 72)).drewN nq = W at *
          have k0 : W.cell? ⟨wr.heap.size, 0, none⟩ = some (.int .i64 r.f) := kb.cell 0
          have k1 : W.cell? ⟨wr.heap.size, 1, none⟩ = some (.int .i64 r.t) := kb.cell 1
          have k2 : W.cell? ⟨wr.heap.size, 2, none⟩ = some (.int .i64 r.p) := kb.cell 2
          have Kb := hide kb; clear kb
          go_wp2_with (at_builtin; refine wpList_push rfl _ _ _ rfl okRow rfl Hown2.out _ rfl rfl (by simp [Value.oneCell']) (by unfold maxLen; omega) (by omega) Hb2.out.size ?_; intro v3 w3 hown3 hg3)
          go_roundw
          case rel => exact ⟨k + 1, [r], by omega, by go_num, by simp, Hstep.out, hown3, belowPush Hb2.out Hown2.out Hb2.out.size hg3⟩
          case measure => simp [intOf]; omega
        · rw [List.concat_eq_append] at hax
          subst hax
          have hal : a.length + 1 ≤ k := by simpa using hacc
          obtain ⟨q0, q1, q2⟩ := rcells_get (a ++ [x]) a.length (by simp)
          rw [List.getElem_append_right (Nat.le_refl _)] at q0 q1 q2
          simp only [Nat.sub_self, List.getElem_cons_zero] at q0 q1 q2
          rw [List.length_append, List.length_singleton] at hown
          obtain ⟨g, cap, rfl⟩ := own_some hown (by omega)
          have hgB := (hown.lt g rfl).1
          have Hown2 := hide (own_keep hown ((Below.refl _ _).alloc (Nat.le_refl _) (.cells #[.int .i64 r.f, .int .i64 r.t, .int .i64 r.p] 72)))
          have hx1 := (Hown2.out.cellAt (a.length * 3 + 1) (by omega)).trans q1
          have hx2 := (Hown2.out.cellAt (a.length * 3 + 2) (by omega)).trans q2
          have hf1 := Hown2.out.frozenAt (a.length * 3 + 1)
          have Hst := hide (rcells_set_t a x r.t)
          have hyes := fun h h2 => joinOne_yes (a := a) (x := x) (r := r) h h2
          have hno := fun h => joinOne_no (a := a) (x := x) (r := r) h
          clear q0 q1 q2 hown hacc
          have Hb2 := hide (Hb.out.alloc Hb.out.size (.cells #[.int .i64 r.f, .int .i64 r.t, .int .i64 r.p] 72))
          by_cases c1 : x.t = r.f
          · by_cases c2 : x.p = r.p
            · have Hj := hide (hyes c1 c2); clear hyes hno
              have b1 : (x.t == r.f) = true := by rw [beq_iff_eq]; exact c1
              have b2 : (x.p == r.p) = true := by rw [beq_iff_eq]; exact c2
              clear c1 c2
              go_wp2_with fail
              go_quiet (fail)
              have Hb3 := hide (below_drewN Hb2.out nq)
              have Hown3 := hide (own_drew Hown2.out nq)
              have kb := (Bk.new wr 72 #[.int .i64 r.f, .int .i64 r.t, .int .i64 r.p]).drewN nq
              generalize (wr.alloc (.cells #[.int .i64 r.f, .int .i64 r.t, .int .i64 r.p] 72)).drewN nq = W at *
              have k0 : W.cell? ⟨wr.heap.size, 0, none⟩ = some (.int .i64 r.f) := kb.cell 0
              have k1 : W.cell? ⟨wr.heap.size, 1, none⟩ = some (.int .i64 r.t) := kb.cell 1
              have k2 : W.cell? ⟨wr.heap.size, 2, none⟩ = some (.int .i64 r.p) := kb.cell 2
              have Kb := hide kb; clear kb
              have hfz : W.frozen? ⟨g, a.length * 3 + 1, none⟩ = false := Hown3.out.frozenAt _
              have hol : ∃ u, W.cell? ⟨g, a.length * 3 + 1, none⟩ = some u := own_at Hown3.out (by omega)
              obtain ⟨old, hol⟩ := hol
              go_wp2
              go_roundw
              case rel =>
                refine ⟨k + 1, a ++ [⟨x.f, r.t, x.p⟩], by omega, by go_num, by simp; omega, by rw [← Hj.out]; exact Hstep.out, ?_, Hb3.out.setCell hgB _⟩
                have := own_set Hown3.out (a.length * 3 + 1) (.int .i64 r.t)
                rw [Hst.out] at this
                rw [List.length_append, List.length_singleton]
                exact this
              case measure => simp [intOf]; omega
            · have Hj := hide (hno (fun h => c2 h.2)); clear hyes hno
              have b1 : (x.t == r.f) = true := by rw [beq_iff_eq]; exact c1
              have b2 : (x.p == r.p) = false := by rw [beq_eq_false_iff_ne]; exact c2
              clear c1 c2
              go_wp2_with fail
              go_quiet (fail)
              have Hb3 := hide (below_drewN Hb2.out nq)
              have Hown3 := hide (own_drew Hown2.out nq)
              have kb := (Bk.new wr 72 #[.int .i64 r.f, .int .i64 r.t, .int .i64 r.p]).drewN nq
              generalize (wr.alloc (.cells #[.int .i64 r.f, .int .i64 r.t, .int .i64 r.p] 72)).drewN nq = W at *
              have k0 : W.cell? ⟨wr.heap.size, 0, none⟩ = some (.int .i64 r.f) := kb.cell 0
              have k1 : W.cell? ⟨wr.heap.size, 1, none⟩ = some (.int .i64 r.t) := kb.cell 1
              have k2 : W.cell? ⟨wr.heap.size, 2, none⟩ = some (.int .i64 r.p) := kb.cell 2
              have Kb := hide kb; clear kb
              go_wp2_with (at_builtin; refine wpList_push rfl _ _ _ rfl okRow rfl Hown3.out _ rfl rfl (by simp [Value.oneCell']) (by unfold maxLen; omega) (by omega) Hb3.out.size ?_; intro v3 w3 hown3 hg3)
              go_roundw
              case rel => exact ⟨k + 1, a ++ [x] ++ [r], by omega, by go_num, by simp; omega, by rw [← Hj.out]; exact Hstep.out, by rw [List.length_append, List.length_append, List.length_singleton, List.length_singleton, rcells_append]; exact hown3, belowPush Hb3.out Hown3.out Hb3.out.size hg3⟩
              case measure => simp [intOf]; omega
          · have Hj := hide (hno (fun h => c1 h.1)); clear hyes hno
            have b1 : (x.t == r.f) = false := by rw [beq_eq_false_iff_ne]; exact c1
            clear c1
            go_wp2_with fail
            go_quiet (fail)
            have Hb3 := hide (below_drewN Hb2.out nq)
            have Hown3 := hide (own_drew Hown2.out nq)
            have kb := (Bk.new wr 72 #[.int .i64 r.f, .int .i64 r.t, .int .i64 r.p]).drewN nq
            generalize (wr.alloc (.cells #[.int .i64 r.f, .int .i64 r.t, .int .i64 r.p] 72)).drewN nq = W at *
            have k0 : W.cell? ⟨wr.heap.size, 0, none⟩ = some (.int .i64 r.f) := kb.cell 0
            have k1 : W.cell? ⟨wr.heap.size, 1, none⟩ = some (.int .i64 r.t) := kb.cell 1
            have k2 : W.cell? ⟨wr.heap.size, 2, none⟩ = some (.int .i64 r.p) := kb.cell 2
            have Kb := hide kb; clear kb
            go_wp2_with (at_builtin; refine wpList_push rfl _ _ _ rfl okRow rfl Hown3.out _ rfl rfl (by simp [Value.oneCell']) (by unfold maxLen; omega) (by omega) Hb3.out.size ?_; intro v3 w3 hown3 hg3)
            go_roundw
            case rel => exact ⟨k + 1, a ++ [x] ++ [r], by omega, by go_num, by simp; omega, by rw [← Hj.out]; exact Hstep.out, by rw [List.length_append, List.length_append, List.length_singleton, List.length_singleton, rcells_append]; exact hown3, belowPush Hb3.out Hown3.out Hb3.out.size hg3⟩
            case measure => simp [intOf]; omega
      · obtain rfl : k = l.length := by omega
        rw [List.drop_length] at hfold
        have Hfold := hide hfold
        clear hfold
        go_wp2
        go_ret2
        rw [Hp.out, ← Hfold.out]
        exact ⟨_, rfl, hown, hb⟩
end Go.Proofs.Ytheddnjhkcpmnaa
set_option linter.unusedSimpArgs false
set_option linter.unusedVariables false
namespace Go.Proofs.Ytheddnjhkcpmnaa

/-- the pad of the first row that a place is in -/
def padA (a : Int) : List R3 → Option Int
  | [] => none
  | r :: l => if r.f ≤ a ∧ a < r.t then some r.p else padA a l
theorem padA_app (a : Int) : ∀ (x y : List R3), padA a (x ++ y) = (padA a x).or (padA a y) := by
  intro x
  induction x with
  | nil => intro y; rfl
  | cons r x ih =>
    intro y
    simp only [List.cons_append, padA]
    split
    · rfl
    · exact ih y
def upL (l : List R3) : Prop := ∀ r ∈ l, r.f < r.t
theorem joinOne_cases (acc : List R3) (r : R3) : (joinOne acc r = acc ++ [r]) ∨ ∃ a0 x, acc = a0 ++ [x] ∧ x.t = r.f ∧ x.p = r.p ∧ joinOne acc r = a0 ++ [⟨x.f, r.t, x.p⟩] := by
  rcases List.eq_nil_or_concat acc with rfl | ⟨a0, x, rfl⟩
  · exact .inl rfl
  · by_cases h : x.t = r.f ∧ x.p = r.p
    · exact .inr ⟨a0, x, by simp, h.1, h.2, by rw [List.concat_eq_append]; exact joinOne_yes h.1 h.2⟩
    · exact .inl (by rw [List.concat_eq_append]; exact joinOne_no h)
theorem joinOne_up {acc : List R3} {r : R3} (h : upL acc) (hr : r.f < r.t) : upL (joinOne acc r) := by
  rcases joinOne_cases acc r with e | ⟨a0, x, rfl, h1, h2, e⟩
  · rw [e]; intro s hs
    rcases List.mem_append.1 hs with hs | hs
    · exact h s hs
    · rw [List.mem_singleton] at hs; subst hs; exact hr
  · rw [e]; intro s hs
    have hx := h x (by simp)
    rcases List.mem_append.1 hs with hs | hs
    · exact h s (by simp [hs])
    · rw [List.mem_singleton] at hs; subst hs; show x.f < r.t; omega
theorem padA_one {a : Int} {acc : List R3} {r : R3} (h : upL acc) (hr : r.f < r.t) : padA a (joinOne acc r) = padA a (acc ++ [r]) := by
  rcases joinOne_cases acc r with e | ⟨a0, x, rfl, h1, h2, e⟩
  · rw [e]
  · have hx := h x (by simp)
    rw [e, List.append_assoc, padA_app, padA_app]
    congr 1
    simp only [padA, List.cons_append, List.nil_append]
    by_cases c1 : x.f ≤ a ∧ a < x.t
    · rw [if_pos c1, if_pos (show x.f ≤ a ∧ a < r.t by omega)]
    · rw [if_neg c1]
      by_cases c2 : r.f ≤ a ∧ a < r.t
      · rw [if_pos c2, if_pos (show x.f ≤ a ∧ a < r.t by omega), h2]
      · rw [if_neg c2, if_neg (show ¬ (x.f ≤ a ∧ a < r.t) by omega)]
theorem padA_fold (a : Int) : ∀ (l acc : List R3), upL acc → upL l → padA a (l.foldl joinOne acc) = padA a (acc ++ l) := by
  intro l
  induction l with
  | nil => intro acc _ _; simp
  | cons r l ih =>
    intro acc h hl
    have hr := hl r (by simp)
    rw [List.foldl_cons, ih _ (joinOne_up h hr) (fun s hs => hl s (by simp [hs])), padA_app, padA_one h hr, ← padA_app, List.append_assoc]
    rfl
theorem padA_join {a : Int} {l : List R3} (h : upL l) : padA a (joinL l) = padA a l := by
  have := padA_fold a l [] (fun s hs => by simp at hs) h
  exact this
/-- rows are good from a on: their pads by PadFor -/
theorem rowIx_pad (a : Int) : ∀ (l : List R3) (k : Nat), (padA a l = none ∧ rowIx a l k = -1) ∨ ∃ (i : Nat) (h : i < l.length), padA a l = some (l[i]).p ∧ rowIx a l k = ((i + k : Nat) : Int) := by
  intro l
  induction l with
  | nil => intro k; exact .inl ⟨rfl, rfl⟩
  | cons r l ih =>
    intro k
    by_cases c : r.f ≤ a ∧ a < r.t
    · refine .inr ⟨0, by simp, ?_, ?_⟩
      · simp only [padA, if_pos c]; rfl
      · have : hit a r := c
        simp only [rowIx, if_pos this]; simp
    · have c' : ¬ hit a r := c
      rcases ih (k + 1) with ⟨h1, h2⟩ | ⟨i, hi, h1, h2⟩
      · exact .inl ⟨by simp only [padA, if_neg c]; exact h1, by simp only [rowIx, if_neg c']; exact h2⟩
      · refine .inr ⟨i + 1, by simp; omega, ?_, ?_⟩
        · simp only [padA, if_neg c, List.getElem_cons_succ]; exact h1
        · simp only [rowIx, if_neg c']; rw [h2]; congr 1; omega
theorem padFor_eq {l : List R3} {many a : Int} (h : goodRows l many = true) (h2 : 0 ≤ a ∧ a < many) : padFor l many a = ((padA a l).getD 0, (padA a l).isSome) := by
  rcases rowIx_pad a l 0 with ⟨h3, h4⟩ | ⟨i, hi, h3, h4⟩
  · rw [padFor_no3 h4, h3]; rfl
  · rw [padFor_yes h ⟨h2.1, by omega⟩ (by rw [h4]; simp) hi, h3]; rfl
theorem rowsOk_up {many : Int} : ∀ (l : List R3) (a : Int), rowsOk many a l = true → upL l := by
  intro l
  induction l with
  | nil => intro a _ r hr; simp at hr
  | cons x l ih =>
    intro a h r hr
    simp only [rowsOk] at h
    by_cases hx : rowOk a many x
    · rw [if_pos hx] at h
      rcases List.mem_cons.1 hr with rfl | hr
      · exact hx.2.1
      · exact ih x.t h r hr
    · rw [if_neg hx] at h; cases h
theorem rowsOk_merge {many : Int} {x r : R3} {l : List R3} (h1 : x.t = r.f) : ∀ (a0 : List R3) (b : Int), rowsOk many b (a0 ++ x :: r :: l) = true → rowsOk many b (a0 ++ ⟨x.f, r.t, x.p⟩ :: l) = true := by
  intro a0
  induction a0 with
  | nil =>
    intro b h
    simp only [List.nil_append, rowsOk] at h ⊢
    by_cases hx : rowOk b many x
    · rw [if_pos hx] at h
      by_cases hr : rowOk x.t many r
      · rw [if_pos hr] at h
        obtain ⟨p1, p2, p3, p4, p5⟩ := hx
        obtain ⟨q1, q2, q3, q4, q5⟩ := hr
        rw [if_pos (show rowOk b many ⟨x.f, r.t, x.p⟩ from ⟨p1, by show x.f < r.t; omega, q3, p4, p5⟩)]
        exact h
      · rw [if_neg hr] at h; cases h
    · rw [if_neg hx] at h; cases h
  | cons y a0 ih =>
    intro b h
    simp only [List.cons_append, rowsOk] at h ⊢
    by_cases hy : rowOk b many y
    · rw [if_pos hy] at h ⊢; exact ih y.t h
    · rw [if_neg hy] at h; cases h
theorem rowsOk_fold {many : Int} : ∀ (l acc : List R3), rowsOk many 0 (acc ++ l) = true → rowsOk many 0 (l.foldl joinOne acc) = true := by
  intro l
  induction l with
  | nil => intro acc h; simpa using h
  | cons r l ih =>
    intro acc h
    rw [List.foldl_cons]
    refine ih _ ?_
    rcases joinOne_cases acc r with e | ⟨a0, x, rfl, h1, h2, e⟩
    · rw [e, List.append_assoc]; exact h
    · rw [e, List.append_assoc]
      refine rowsOk_merge h1 a0 0 ?_
      simpa using h
theorem goodRows_join {l : List R3} {many : Int} (h : goodRows l many = true) : goodRows (joinL l) many = true := by
  rw [goodRows_eq] at h ⊢
  simp only [Bool.and_eq_true] at h ⊢
  exact ⟨h.1, rowsOk_fold l [] h.2⟩
theorem upL_good {l : List R3} {many : Int} (h : goodRows l many = true) : upL l := by
  rw [goodRows_eq] at h
  simp only [Bool.and_eq_true] at h
  exact rowsOk_up l 0 h.2
theorem padFor_join {l : List R3} {many a : Int} (h : goodRows l many = true) (h2 : 0 ≤ a ∧ a < many) : padFor (joinRows l many) many a = padFor l many a := by
  have e : joinRows l many = joinL l := by unfold joinRows; rw [if_pos h]
  rw [e, padFor_eq (goodRows_join h) h2, padFor_eq h h2, padA_join (upL_good h)]
end Go.Proofs.Ytheddnjhkcpmnaa
