/- impl.JoinRows: what the Go text returns. No condition. -/
import Derived.Test.YtjkohbbgcfjjoaaJn
set_option linter.unusedSimpArgs false
set_option linter.unusedVariables false
set_option maxRecDepth 100000
namespace Go.Proofs.Ytjkohbbgcfjjoaa
open Go.RowKit

set_option maxHeartbeats 1600000 in
theorem impl_JoinRows (v : Value) (l : List R3) (many : Int) (w : World) (hr : Rd w w.heap.size v l.length (rcells l)) (hl : l.length ≤ 9223372036854775807) :
    Calls Try.prog 29 #[v, .int .i64 many] w fun e w' => ∃ v', e = .returned (.tuple #[v', .bool (goodRows l many)]) ∧ w'.ownsRow w.heap.size 73 3 v' (joinRows l many).length (rcells (joinRows l many)) ∧ Below w.heap.size w w' := by
  obtain ⟨A, c, rfl, hn, hc, hcell⟩ := id hr
  have hgood := fun w h => impl_GoodRows (.slice A l.length c) l many w h hl
  have Hr := hide hr; clear hr hcell
  cases hg : goodRows l many
  · rw [hg] at hgood
    have Hp : Hid (joinRows l many = []) := by unfold Hid joinRows; rw [hg]; rfl
    have Hgood := hide hgood; clear hgood hg
    go_enter Try.func29, Try.ntmps29
    go_wp2_with (go_at_call 17; refine (Hgood.out _ Hr.out).mono ?_; rintro e w1 ⟨rfl, hb1⟩)
    go_ret2
    rw [Hp.out]
    exact ⟨_, rfl, World.ownsRow_nil _ _ _ _, hb1⟩
  · obtain ⟨hsm, g1, g2, g3⟩ := small_of_good hg
    have Hp : Hid (joinRows l many = joinL l) := by unfold Hid joinRows; rw [hg]; rfl
    rw [hg] at hgood
    have Hgood := hide hgood; clear hgood hg hsm
    go_enter Try.func29, Try.ntmps29
    go_wp2_with (go_at_call 17; refine (Hgood.out _ Hr.out).mono ?_; rintro e w1 ⟨rfl, hb1⟩)
    go_loopw [6, 16] (fun out i wr => ∃ (k : Nat) (acc : List R3), k ≤ l.length ∧ i = .int .i64 k ∧ acc.length ≤ k ∧ (l.drop k).foldl joinOne acc = joinL l ∧ wr.ownsRow w.heap.size 73 3 out acc.length (rcells acc) ∧ Below w.heap.size w wr) (fun _ i _ => l.length - (intOf i).toNat)
    case atStart => exact ⟨0, [], by omega, rfl, by simp, rfl, World.ownsRow_nil _ _ _ _, hb1⟩
    case round =>
      obtain ⟨k, acc, hk, rfl, hacc, hfold, hown, hb⟩ := hrel
      by_cases hlt : k < l.length
      · obtain ⟨g0, g1', g2'⟩ := rcells_get l k hlt
        obtain ⟨b, o, rfl, hbB, s0⟩ := Hr.out.at3 g0
        obtain ⟨_, _, e, _, s1⟩ := Hr.out.at3 g1'
        cases e
        obtain ⟨_, _, e, _, s2⟩ := Hr.out.at3 g2'
        cases e
        have hs0 := (hb.cell (p := ⟨b, o + k * 3, none⟩) hbB).trans s0
        have hs1 := (hb.cell (p := ⟨b, o + (k * 3 + 1), none⟩) hbB).trans s1
        have hs2 := (hb.cell (p := ⟨b, o + (k * 3 + 2), none⟩) hbB).trans s2
        rw [← Nat.add_assoc] at hs1 hs2
        have Hstep := hide (join_step hlt hfold)
        have Hb := hide hb
        clear s0 s1 s2 g0 g1' g2' Hr Hgood hb hfold hb1
        generalize l[k] = r at *
        rcases List.eq_nil_or_concat acc with rfl | ⟨a, x, hax⟩
        · obtain ⟨A1, c1, rfl⟩ := own_form hown
          have Hown := hide hown; clear hown
          go_wp2_with fail
          go_quiet (fail)
          have Hb2 := hide (below_drewN (Hb.out.alloc Hb.out.size (.cells #[.int .i64 r.f, .int .i64 r.t, .int .i64 r.p] 73)) nq)
          have Hown2 := hide (own_drew (own_keep Hown.out ((Below.refl _ _).alloc (Nat.le_refl _) (.cells #[.int .i64 r.f, .int .i64 r.t, .int .i64 r.p] 73))) nq)
          have kb := (Bk.new wr 73 #[.int .i64 r.f, .int .i64 r.t, .int .i64 r.p]).drewN nq
          generalize (wr.alloc (.cells #[.int .i64 r.f, .int .i64 r.t, .int .i64 r.p] 73)).drewN nq = W at *
          have k0 : W.cell? ⟨wr.heap.size, 0, none⟩ = some (.int .i64 r.f) := kb.cell 0
          have k1 : W.cell? ⟨wr.heap.size, 1, none⟩ = some (.int .i64 r.t) := kb.cell 1
          have k2 : W.cell? ⟨wr.heap.size, 2, none⟩ = some (.int .i64 r.p) := kb.cell 2
          have Kb := hide kb; clear kb
          go_wp2_with (at_builtin; refine wpList_push rfl _ _ _ rfl okRow rfl Hown2.out _ rfl rfl (by simp [Value.oneCell']) (by unfold maxLen; omega) (by omega) Hb2.out.size ?_; intro v3 w3 hown3 hg3)
          go_roundw
          case rel => exact ⟨k + 1, [r], by omega, by go_num, by simp, Hstep.out, hown3, belowPush Hb2.out Hown2.out Hb2.out.size hg3⟩
          case measure => simp [intOf]; omega
        · rw [List.concat_eq_append] at hax
          subst hax
          have hal : a.length + 1 ≤ k := by simpa using hacc
          obtain ⟨q0, q1, q2⟩ := rcells_get (a ++ [x]) a.length (by simp)
          rw [List.getElem_append_right (Nat.le_refl _)] at q0 q1 q2
          simp only [Nat.sub_self, List.getElem_cons_zero] at q0 q1 q2
          rw [List.length_append, List.length_singleton] at hown
          obtain ⟨g, cap, rfl⟩ := own_some hown (by omega)
          have hgB := (hown.lt g rfl).1
          have Hown2 := hide (own_keep hown ((Below.refl _ _).alloc (Nat.le_refl _) (.cells #[.int .i64 r.f, .int .i64 r.t, .int .i64 r.p] 73)))
          have hx1 := (Hown2.out.cellAt (a.length * 3 + 1) (by omega)).trans q1
          have hx2 := (Hown2.out.cellAt (a.length * 3 + 2) (by omega)).trans q2
          have hf1 := Hown2.out.frozenAt (a.length * 3 + 1)
          have Hst := hide (rcells_set_t a x r.t)
          have hyes := fun h h2 => joinOne_yes (a := a) (x := x) (r := r) h h2
          have hno := fun h => joinOne_no (a := a) (x := x) (r := r) h
          clear q0 q1 q2 hown hacc
          have Hb2 := hide (Hb.out.alloc Hb.out.size (.cells #[.int .i64 r.f, .int .i64 r.t, .int .i64 r.p] 73))
          by_cases c1 : x.t = r.f
          · by_cases c2 : x.p = r.p
            · have Hj := hide (hyes c1 c2); clear hyes hno
              have b1 : (x.t == r.f) = true := by rw [beq_iff_eq]; exact c1
              have b2 : (x.p == r.p) = true := by rw [beq_iff_eq]; exact c2
              clear c1 c2
              go_wp2_with fail
              go_quiet (fail)
              have Hb3 := hide (below_drewN Hb2.out nq)
              have Hown3 := hide (own_drew Hown2.out nq)
              have kb := (Bk.new wr 73 #[.int .i64 r.f, .int .i64 r.t, .int .i64 r.p]).drewN nq
              generalize (wr.alloc (.cells #[.int .i64 r.f, .int .i64 r.t, .int .i64 r.p] 73)).drewN nq = W at *
              have k0 : W.cell? ⟨wr.heap.size, 0, none⟩ = some (.int .i64 r.f) := kb.cell 0
              have k1 : W.cell? ⟨wr.heap.size, 1, none⟩ = some (.int .i64 r.t) := kb.cell 1
              have k2 : W.cell? ⟨wr.heap.size, 2, none⟩ = some (.int .i64 r.p) := kb.cell 2
              have Kb := hide kb; clear kb
              have hfz : W.frozen? ⟨g, a.length * 3 + 1, none⟩ = false := Hown3.out.frozenAt _
              have hol : ∃ u, W.cell? ⟨g, a.length * 3 + 1, none⟩ = some u := own_at Hown3.out (by omega)
              obtain ⟨old, hol⟩ := hol
              go_wp2
              go_roundw
              case rel =>
                refine ⟨k + 1, a ++ [⟨x.f, r.t, x.p⟩], by omega, by go_num, by simp; omega, by rw [← Hj.out]; exact Hstep.out, ?_, Hb3.out.setCell hgB _⟩
                have := own_set Hown3.out (a.length * 3 + 1) (.int .i64 r.t)
                rw [Hst.out] at this
                rw [List.length_append, List.length_singleton]
                exact this
              case measure => simp [intOf]; omega
            · have Hj := hide (hno (fun h => c2 h.2)); clear hyes hno
              have b1 : (x.t == r.f) = true := by rw [beq_iff_eq]; exact c1
              have b2 : (x.p == r.p) = false := by rw [beq_eq_false_iff_ne]; exact c2
              clear c1 c2
              go_wp2_with fail
              go_quiet (fail)
              have Hb3 := hide (below_drewN Hb2.out nq)
              have Hown3 := hide (own_drew Hown2.out nq)
              have kb := (Bk.new wr 73 #[.int .i64 r.f, .int .i64 r.t, .int .i64 r.p]).drewN nq
              generalize (wr.alloc (.cells #[.int .i64 r.f, .int .i64 r.t, .int .i64 r.p] 73)).drewN nq = W at *
              have k0 : W.cell? ⟨wr.heap.size, 0, none⟩ = some (.int .i64 r.f) := kb.cell 0
              have k1 : W.cell? ⟨wr.heap.size, 1, none⟩ = some (.int .i64 r.t) := kb.cell 1
              have k2 : W.cell? ⟨wr.heap.size, 2, none⟩ = some (.int .i64 r.p) := kb.cell 2
              have Kb := hide kb; clear kb
              go_wp2_with (at_builtin; refine wpList_push rfl _ _ _ rfl okRow rfl Hown3.out _ rfl rfl (by simp [Value.oneCell']) (by unfold maxLen; omega) (by omega) Hb3.out.size ?_; intro v3 w3 hown3 hg3)
              go_roundw
              case rel => exact ⟨k + 1, a ++ [x] ++ [r], by omega, by go_num, by simp; omega, by rw [← Hj.out]; exact Hstep.out, by rw [List.length_append, List.length_append, List.length_singleton, List.length_singleton, rcells_append]; exact hown3, belowPush Hb3.out Hown3.out Hb3.out.size hg3⟩
              case measure => simp [intOf]; omega
          · have Hj := hide (hno (fun h => c1 h.1)); clear hyes hno
            have b1 : (x.t == r.f) = false := by rw [beq_eq_false_iff_ne]; exact c1
            clear c1
            go_wp2_with fail
            go_quiet (fail)
            have Hb3 := hide (below_drewN Hb2.out nq)
            have Hown3 := hide (own_drew Hown2.out nq)
            have kb := (Bk.new wr 73 #[.int .i64 r.f, .int .i64 r.t, .int .i64 r.p]).drewN nq
            generalize (wr.alloc (.cells #[.int .i64 r.f, .int .i64 r.t, .int .i64 r.p] 73)).drewN nq = W at *
            have k0 : W.cell? ⟨wr.heap.size, 0, none⟩ = some (.int .i64 r.f) := kb.cell 0
            have k1 : W.cell? ⟨wr.heap.size, 1, none⟩ = some (.int .i64 r.t) := kb.cell 1
            have k2 : W.cell? ⟨wr.heap.size, 2, none⟩ = some (.int .i64 r.p) := kb.cell 2
            have Kb := hide kb; clear kb
            go_wp2_with (at_builtin; refine wpList_push rfl _ _ _ rfl okRow rfl Hown3.out _ rfl rfl (by simp [Value.oneCell']) (by unfold maxLen; omega) (by omega) Hb3.out.size ?_; intro v3 w3 hown3 hg3)
            go_roundw
            case rel => exact ⟨k + 1, a ++ [x] ++ [r], by omega, by go_num, by simp; omega, by rw [← Hj.out]; exact Hstep.out, by rw [List.length_append, List.length_append, List.length_singleton, List.length_singleton, rcells_append]; exact hown3, belowPush Hb3.out Hown3.out Hb3.out.size hg3⟩
            case measure => simp [intOf]; omega
      · obtain rfl : k = l.length := by omega
        rw [List.drop_length] at hfold
        have Hfold := hide hfold
        clear hfold
        go_wp2
        go_ret2
        rw [Hp.out, ← Hfold.out]
        exact ⟨_, rfl, hown, hb⟩
end Go.Proofs.Ytjkohbbgcfjjoaa
