
/- isSizedCode, isSized, l5Sized: what the Go text returns. No condition. -/
import Derived.Test.YtaebmliolpgmdaaGreatIm
import Derived.Test.YtaebmliolpgmdaaGreatOpen2
set_option linter.unusedSimpArgs false
set_option linter.unusedVariables false
set_option maxRecDepth 100000
namespace Go.Proofs.YtaebmliolpgmdaaGreat
open Go.RowKit Go.Shelf

set_option maxHeartbeats 3200000 in
theorem impl_isSizedCode (cs : List Value) (c : CodeM) (w : World) (hr : RCode w 0 w.heap.size cs c) :
    Calls Tryz.prog 49 #[.agg cs.toArray] w fun e w' => e = .returned (.bool (codeOk c)) ∧ Below w.heap.size w w' := by
  obtain ⟨v2, v3, v4, rfl, h2, h3, h4⟩ := hr
  obtain ⟨m0, m1, l2, l3, l4⟩ := c
  dsimp only at *
  have n2 := h2.long; have n3 := h3.long; have n4 := h4.long
  obtain ⟨A2, c2, rfl⟩ := h2.form
  obtain ⟨A3, c3, rfl⟩ := h3.form
  obtain ⟨A4, c4, rfl⟩ := h4.form
  have H3 := hide h3; clear h2 h3 h4
  unfold codeOk
  dsimp only
  have hb := (Below.refl w.heap.size w).alloc (Nat.le_refl _) (.cells #[.int .i64 m0, .int .i64 m1, .slice A2 l2.length c2, .slice A3 l3.length c3, .slice A4 l4.length c4] 58)
  have Hb := hide hb; clear hb
  by_cases g1 : 0 ≤ m0 ∧ m0 ≤ 2
  case neg =>
    have g1' : m0 < 0 ∨ 2 < m0 := by omega
    rw [inB_no g1', Bool.false_and]
    clear g1
    go_enter Tryz.func49, Tryz.ntmps49
    go_wp2_with (go_at_call 24; refine (impl_within_no _ _ _ g1' _).mono ?_; rintro e w' ⟨rfl, rfl⟩)
    go_ret
    exact ⟨rfl, Hb.out⟩
  rw [inB_yes g1.1 g1.2, Bool.true_and]
  obtain ⟨g1a, g1b⟩ := g1
  by_cases g2 : m0 ≤ m1 ∧ m1 ≤ 6
  case neg =>
    have g2' : m1 < m0 ∨ 6 < m1 := by omega
    rw [inB_no g2', Bool.false_and]
    clear g2
    go_enter Tryz.func49, Tryz.ntmps49
    go_wp2_with (go_at_call 24; first
      | ((with_reducible refine (impl_within_yes m0 0 2 g1a g1b _).mono ?_); rintro e w' ⟨rfl, rfl⟩)
      | ((with_reducible refine (impl_within_no m1 m0 6 g2' _).mono ?_); rintro e w' ⟨rfl, rfl⟩))
    go_ret
    exact ⟨rfl, Hb.out⟩
  rw [inB_yes g2.1 g2.2, Bool.true_and]
  obtain ⟨g2a, g2b⟩ := g2
  by_cases g3 : l2.length ≤ 4
  case neg =>
    rw [decide_eq_false g3, Bool.false_and]
    go_enter Tryz.func49, Tryz.ntmps49
    go_wp2_with (go_at_call 24; first
      | ((with_reducible refine (impl_within_yes m0 0 2 g1a g1b _).mono ?_); rintro e w' ⟨rfl, rfl⟩)
      | ((with_reducible refine (impl_within_yes m1 m0 6 g2a g2b _).mono ?_); rintro e w' ⟨rfl, rfl⟩))
    go_ret
    exact ⟨rfl, Hb.out⟩
  rw [decide_eq_true g3, Bool.true_and]
  by_cases g4 : (1 : Int) ≤ l3.length ∧ (l3.length : Int) ≤ 300
  case neg =>
    have g4' : (l3.length : Int) < 1 ∨ 300 < (l3.length : Int) := by omega
    rw [inB_no g4', Bool.false_and]
    clear g4
    go_enter Tryz.func49, Tryz.ntmps49
    go_wp2_with (go_at_call 24; first
      | ((with_reducible refine (impl_within_yes m0 0 2 g1a g1b _).mono ?_); rintro e w' ⟨rfl, rfl⟩)
      | ((with_reducible refine (impl_within_yes m1 m0 6 g2a g2b _).mono ?_); rintro e w' ⟨rfl, rfl⟩)
      | ((with_reducible refine (impl_within_no _ 1 300 g4' _).mono ?_); rintro e w' ⟨rfl, rfl⟩))
    go_ret
    exact ⟨rfl, Hb.out⟩
  rw [inB_yes g4.1 g4.2, Bool.true_and]
  obtain ⟨g4a, g4b⟩ := g4
  by_cases g5 : l4.length ≤ 300
  case neg =>
    rw [decide_eq_false g5, Bool.false_and]
    go_enter Tryz.func49, Tryz.ntmps49
    go_wp2_with (go_at_call 24; first
      | ((with_reducible refine (impl_within_yes m0 0 2 g1a g1b _).mono ?_); rintro e w' ⟨rfl, rfl⟩)
      | ((with_reducible refine (impl_within_yes m1 m0 6 g2a g2b _).mono ?_); rintro e w' ⟨rfl, rfl⟩)
      | ((with_reducible refine (impl_within_yes _ 1 300 g4a g4b _).mono ?_); rintro e w' ⟨rfl, rfl⟩))
    go_ret
    exact ⟨rfl, Hb.out⟩
  rw [decide_eq_true g5, Bool.true_and]
  have hany := anyIns (.slice A3 l3.length c3) l3 (fun t => !insOk t) 87 #[] (enters_of Tryz.func87 (by kernel_rfl) rfl) _ ((H3.out.here Hb.out).rd) (fun o n W _ => impl_isSizedCode1 o n W)
  have hall : (l3.any fun t => !insOk t) = !(l3.all insOk) := by rw [List.all_eq_not_any_not, Bool.not_not]
  rw [hall] at hany
  generalize l3.all insOk = R at *
  have Hany := hide hany; clear hany hall
  go_enter Tryz.func49, Tryz.ntmps49
  go_wp2_with (first
    | (go_at_call 24; first
      | ((with_reducible refine (impl_within_yes m0 0 2 g1a g1b _).mono ?_); rintro e w' ⟨rfl, rfl⟩)
      | ((with_reducible refine (impl_within_yes m1 m0 6 g2a g2b _).mono ?_); rintro e w' ⟨rfl, rfl⟩)
      | ((with_reducible refine (impl_within_yes _ 1 300 g4a g4b _).mono ?_); rintro e w' ⟨rfl, rfl⟩))
    | (go_at_call 86; refine (Hany.out).mono ?_; rintro e w1 ⟨rfl, hb1⟩))
  go_ret
  exact ⟨retB (by simp), Hb.out.trans (hb1.mono Hb.out.size)⟩

theorem impl_isSized1 (cs : List Value) (c : CodeM) (w : World) (hr : RCode w 0 w.heap.size cs c) :
    Calls Tryz.prog 48 #[.agg cs.toArray] w fun e w' => e = .returned (.bool (!codeOk c)) ∧ Below w.heap.size w w' := by
  have hr' := hr
  obtain ⟨v2, v3, v4, rfl, h2, h3, h4⟩ := hr
  have hb := (Below.refl w.heap.size w).alloc (Nat.le_refl _) (.cells #[.int .i64 c.qParams, .int .i64 c.qVars, v2, v3, v4] 58)
  have hx := RCode_stable.here hr' hb
  have hc := impl_isSizedCode _ c _ hx
  generalize codeOk c = R at *
  have Hc := hide hc; have Hb := hide hb; clear hc hb hx hr' h2 h3 h4
  go_enter Tryz.func48, Tryz.ntmps48
  go_wp2_with (go_at_call 49; refine (Hc.out).mono ?_; rintro e w1 ⟨rfl, hb1⟩)
  go_ret
  exact ⟨rfl, Hb.out.trans (hb1.mono Hb.out.size)⟩

theorem RL.funs {α : Type} {R : World → Nat → Nat → List Value → α → Prop} {size : Nat} {w : World} {lo hi c : Nat} {A : Option Addr} {l : List α} (h : RL R size w lo hi (.slice A l.length c) l) :
    ∃ f : Nat → List Value, ∀ i (hi' : i < l.length), ∃ b o, A = some ⟨b, o, none⟩ ∧ (lo ≤ b ∧ b < hi) ∧ (f i).length = size ∧ (∀ k u, (f i)[k]? = some u → w.cell? ⟨b, o + i * size + k, none⟩ = some u) ∧ R w lo hi (f i) l[i] := by
  refine Classical.axiomOfChoice (r := fun i cs => ∀ (hi' : i < l.length), ∃ b o, A = some ⟨b, o, none⟩ ∧ (lo ≤ b ∧ b < hi) ∧ cs.length = size ∧ (∀ k u, cs[k]? = some u → w.cell? ⟨b, o + i * size + k, none⟩ = some u) ∧ R w lo hi cs l[i]) (fun i => ?_)
  by_cases hi' : i < l.length
  · obtain ⟨b, o, cs, h1, h2, h3, h4, h5⟩ := h.at_ hi'
    exact ⟨cs, fun _ => ⟨b, o, h1, h2, h3, h4, h5⟩⟩
  · exact ⟨[], fun h => absurd h hi'⟩
/-- ContainsFunc over codes that are read -/
theorem anyCode (v : Value) (l : List CodeM) (p : CodeM → Bool) (g : Nat) (lb : Array Value) (eg : ∀ args w, (callFunc g args).run Tryz.prog w = .ok (.enter g args) w) (w : World) (hr : RL RCode 5 w 0 w.heap.size v l)
    (hp : ∀ cs c W, Below w.heap.size w W → RCode W 0 W.heap.size cs c → Calls Tryz.prog g (#[.agg cs.toArray] ++ lb) W fun e w' => e = .returned (.bool (p c)) ∧ Below W.heap.size W w') :
    Calls Tryz.prog 47 #[v, .func (.func g) #[] lb] w fun e w' => e = .returned (.bool (l.any p)) ∧ Below w.heap.size w w' := by
  have hl := hr.long
  obtain ⟨A, c, rfl⟩ := hr.form
  obtain ⟨f, hf⟩ := hr.funs
  rw [← anyq_list (q := fun j => p (l.getD j ⟨0, 0, [], [], []⟩)) (p := p) (l := l) (fun j hj => by simp [List.getD, List.getElem?_eq_getElem hj])]
  refine cfCode A l.length c (fun j => (f j).getD 0 (.bool false)) (fun j => (f j).getD 1 (.bool false)) (fun j => (f j).getD 2 (.bool false)) (fun j => (f j).getD 3 (.bool false)) (fun j => (f j).getD 4 (.bool false)) _ g lb eg w hl (fun j hj => ?_) (fun j hj W hW => ?_)
  · obtain ⟨b, o, hA, hb, hlen, hcell, _⟩ := hf j hj
    obtain ⟨c0, c1, c2, c3, c4, hcs⟩ := list5 hlen
    refine ⟨b, o, hA, hb.2, ?_, ?_, ?_, ?_, ?_⟩
    · exact hcell 0 _ (by simp [hcs])
    · exact hcell 1 _ (by simp [hcs])
    · exact hcell 2 _ (by simp [hcs])
    · exact hcell 3 _ (by simp [hcs])
    · exact hcell 4 _ (by simp [hcs])
  · obtain ⟨b, o, hA, hb, hlen, hcell, hR⟩ := hf j hj
    have := hp (f j) l[j] W hW (RCode_stable.here hR hW)
    obtain ⟨c0, c1, c2, c3, c4, hcs⟩ := list5 hlen
    rw [hcs] at this ⊢
    have e : l.getD j ⟨0, 0, [], [], []⟩ = l[j] := by simp [List.getD, List.getElem?_eq_getElem hj]
    rw [e]
    exact this
set_option maxHeartbeats 1600000 in
theorem impl_isSized (cs : List Value) (x : ImageM) (w : World) (hr : RImage w 0 w.heap.size cs x) :
    Calls Tryz.prog 23 #[.agg cs.toArray] w fun e w' => e = .returned (.bool (sizedB x.qCodes)) ∧ Below w.heap.size w w' := by
  obtain ⟨v0, rfl, h0⟩ := hr
  obtain ⟨l⟩ := x
  dsimp only at *
  have hl := h0.long
  obtain ⟨A, c, rfl⟩ := h0.form
  have hb := (Below.refl w.heap.size w).alloc (Nat.le_refl _) (.cells #[.slice A l.length c] 31)
  have h0' := h0.here RCode_stable hb
  unfold sizedB
  by_cases g : (1 : Int) ≤ l.length ∧ (l.length : Int) ≤ 5
  · rw [inB_yes g.1 g.2, Bool.true_and]
    obtain ⟨ga, gb⟩ := g
    have hany := anyCode (.slice A l.length c) l (fun t => !codeOk t) 48 #[] (enters_of Tryz.func48 (by kernel_rfl) rfl) _ h0' (fun cs c W _ h => impl_isSized1 cs c W h)
    have hall : (l.any fun t => !codeOk t) = !(l.all codeOk) := by rw [List.all_eq_not_any_not, Bool.not_not]
    rw [hall] at hany
    generalize l.all codeOk = R at *
    have Hany := hide hany; have Hb := hide hb; clear hany hall hb h0 h0'
    go_enter Tryz.func23, Tryz.ntmps23
    go_wp2_with (first
      | (go_at_call 24; refine (impl_within_yes _ _ _ ga gb _).mono ?_; rintro e w' ⟨rfl, rfl⟩)
      | (go_at_call 47; refine (Hany.out).mono ?_; rintro e w1 ⟨rfl, hb1⟩))
    go_ret
    exact ⟨retB (by simp), Hb.out.trans (hb1.mono Hb.out.size)⟩
  · have g' : (l.length : Int) < 1 ∨ 5 < (l.length : Int) := by omega
    rw [inB_no g', Bool.false_and]
    have Hb := hide hb; clear hb h0 h0' g
    go_enter Tryz.func23, Tryz.ntmps23
    go_wp2_with (go_at_call 24; refine (impl_within_no _ _ _ g' _).mono ?_; rintro e w' ⟨rfl, rfl⟩)
    go_ret
    exact ⟨rfl, Hb.out⟩
end Go.Proofs.YtaebmliolpgmdaaGreat
