
/- EvalPure: what the Go text returns. No condition. -/
import Derived.Test.YtgcbjphbeifbkaaEv
set_option linter.unusedSimpArgs false
set_option linter.unusedVariables false
set_option maxRecDepth 100000
namespace Go.Proofs.Ytgcbjphbeifbkaa
open Go.RowKit Go.Shelf

/-- ContainsFunc over tokens that are read -/
theorem anyTok (v : Value) (l : List P2) (p : P2 → Bool) (g : Nat) (eg : ∀ args w, (callFunc g args).run Try.prog w = .ok (.enter g args) w) (w : World) (hr : Rd w w.heap.size v l.length (pcells l))
    (hp : ∀ o n W, Calls Try.prog g #[.agg #[.int .i64 o, .int .i64 n]] W fun e w' => e = .returned (.bool (p ⟨o, n⟩)) ∧ Below W.heap.size W w') :
    Calls Try.prog 62 #[v, .func (.func g) #[] #[]] w fun e w' => e = .returned (.bool (l.any p)) ∧ Below w.heap.size w w' := by
  have hl := hr.long
  obtain ⟨A, c, rfl, hn, hc, hcell⟩ := id hr
  rw [← anyq_list (q := fun j => p (l.getD j ⟨0, 0⟩)) (p := p) (l := l) (fun j hj => by simp [List.getD, List.getElem?_eq_getElem hj])]
  refine cfTok A l.length c (fun j => .int .i64 (l.getD j ⟨0, 0⟩).o) (fun j => .int .i64 (l.getD j ⟨0, 0⟩).n) _ g #[] eg w hl (fun j hj => ?_) (fun j hj W hW => hp _ _ W)
  obtain ⟨b, o, hA, hbB, hs0, hs1⟩ := hr.two hj
  exact ⟨b, o, hA, hbB, by rw [hs0]; simp [List.getD, List.getElem?_eq_getElem hj], by rw [hs1]; simp [List.getD, List.getElem?_eq_getElem hj]⟩

theorem evOk_long {env : List Int} {e : List P2} (h : 6 < env.length) : evOk env e = false := by unfold evOk; rw [decide_eq_false (by omega)]; rfl
theorem evOk_all {env : List Int} {e : List P2} (h : allIn env (-2147483648) 2147483647 = false) : evOk env e = false := by
  unfold evOk; rw [show (env.all fun n => smallB n) = allIn env (-2147483648) 2147483647 from rfl, h]; simp
theorem evOk_high {env : List Int} {e : List P2} (h : ¬ 0 < highOf env.length [] e) : evOk env e = false := by unfold evOk; rw [decide_eq_false h]; simp
theorem evOk_ops {env : List Int} {e : List P2} (h : opsOk e = false) : evOk env e = false := by unfold evOk; rw [h]; simp
theorem evOk_yes {env : List Int} {e : List P2} (h1 : ¬ 6 < env.length) (h2 : allIn env (-2147483648) 2147483647 = true) (h3 : 0 < highOf env.length [] e) (h4 : opsOk e = true) : evOk env e = true := by
  unfold evOk; rw [show (env.all fun n => smallB n) = allIn env (-2147483648) 2147483647 from rfl, h2, h4, decide_eq_true h3, decide_eq_true (by omega)]; rfl
theorem opsOk_any {e : List P2} : (e.any fun t => decide (8 < t.o)) = !opsOk e := by
  have h : (fun t : P2 => decide (8 < t.o)) = fun t => !decide (t.o ≤ 8) := by
    funext t
    by_cases h : t.o ≤ 8
    · rw [decide_eq_true h, decide_eq_false (by omega)]; rfl
    · rw [decide_eq_false h, decide_eq_true (by omega)]; rfl
  unfold opsOk; rw [List.all_eq_not_any_not, Bool.not_not, h]
theorem opsOk_iff {e : List P2} : opsOk e = true ↔ ∀ t ∈ e, t.o ≤ 8 := by simp [opsOk]
theorem allIn_iff {l : List Int} {lo hi : Int} : allIn l lo hi = true ↔ ∀ n ∈ l, lo ≤ n ∧ n ≤ hi := by
  simp only [allIn, List.all_eq_true, inB_iff]
theorem retIBB {p : Int × Bool × Bool} {a : Int} {b c : Bool} (h : p = (a, b, c)) : Ending.returned (.tuple #[.int .i64 a, .bool b, .bool c]) = .returned (.tuple #[.int .i64 p.1, .bool p.2.1, .bool p.2.2]) := by rw [h]

theorem impl_EvalPure1 (n : Int) (w : World) : Calls Try.prog 60 #[.int .i64 n] w fun e w' => e = .returned (.bool (!inB n (-2147483648) 2147483647)) ∧ w = w' := by
  go_enter Try.func60, Try.ntmps60
  go_wp2_with (go_at_call 61; refine (impl_isSmallB n _).mono ?_; rintro e w' ⟨rfl, rfl⟩)
  go_ret
  exact ⟨rfl, rfl⟩
theorem impl_EvalPure2 (o n : Int) (w : World) : Calls Try.prog 63 #[.agg #[.int .i64 o, .int .i64 n]] w fun e w' => e = .returned (.bool (decide (8 < o))) ∧ Below w.heap.size w w' := by
  go_enter Try.func63, Try.ntmps63
  go_wp2
  go_ret
  exact ⟨rfl, (Below.refl _ _).alloc (Nat.le_refl _) _⟩

set_option maxHeartbeats 1600000 in
theorem impl_EvalPure (v : Value) (e : List P2) (ev : Value) (env : List Int) (w : World) (hr : Rd w w.heap.size v e.length (pcells e)) (hp : Rd w w.heap.size ev env.length (icells .i64 env)) :
    Calls Try.prog 24 #[v, ev] w fun e' w' => e' = .returned (.tuple #[.int .i64 (evF env e).1, .bool (evF env e).2.1, .bool (evF env e).2.2]) ∧ Below w.heap.size w w' := by
  have hl := hr.long; have hl2 := hp.long
  obtain ⟨A, c, rfl, hn, hc, hcell⟩ := id hr
  obtain ⟨A2, c2, rfl, hn2, hc2, hcell2⟩ := id hp
  have hN := @evF_no env e
  have hY := fun x b h h2 => @evF_yes env e x b h h2
  generalize evF env e = F at *
  have Hr := hide hr; have Hp := hide hp; clear hr hcell hp hcell2 hn hc hn2 hc2
  by_cases g1 : 6 < env.length
  · have HF := hide (hN (evOk_long g1)); clear hN hY
    go_enter Try.func24, Try.ntmps24
    go_wp2
    go_ret3
    exact ⟨retIBB HF.out, Below.refl _ _⟩
  have c1 := fun w hp => anyInt (.slice A2 env.length c2) env (fun n => !inB n (-2147483648) 2147483647) 60 (enters_of Try.func60 (by kernel_rfl) rfl) w hp (fun n W => impl_EvalPure1 n W)
  simp only [any_not] at c1
  cases g2 : allIn env (-2147483648) 2147483647
  · have HF := hide (hN (evOk_all g2)); clear hN hY
    simp only [g2] at c1
    have C1 := Lib.hid c1; clear c1 g2
    go_enter Try.func24, Try.ntmps24
    go_wp2_with (go_at_call 59; refine (C1.out _ Hp.out).mono ?_; rintro e1 w1 ⟨rfl, hb1⟩)
    go_ret3
    exact ⟨retIBB HF.out, hb1⟩
  have henv := allIn_iff.1 g2
  simp only [g2] at c1
  have c2' := fun w hr => impl_highOf (.slice A e.length c) e env.length (.slice none 0 0) [] w hr Rd.nil (by omega) (by omega) parOk_nil
  have hbd := highOf_bd (vars := env.length) parOk_nil e
  have hev := fun w hr hp h1 h2 => impl_evalPure (.slice A e.length c) e (.slice A2 env.length c2) env w hr hp henv (by omega) h1 h2
  have hyes := fun h3 h4 => @evOk_yes env e g1 g2 h3 h4
  have hno := @evOk_high env e
  have C1 := Lib.hid c1; have Hev := hide hev; clear c1 hev henv g2
  generalize hS : highOf env.length [] e = S at *
  clear hS
  have C2 := Lib.hid c2'; clear c2'
  by_cases g3 : 0 < S
  · have c3 := fun w hr => anyTok (.slice A e.length c) e (fun t => decide (8 < t.o)) 63 (enters_of Try.func63 (by kernel_rfl) rfl) w hr (fun o n W => impl_EvalPure2 o n W)
    simp only [opsOk_any] at c3
    have b0 : (S == 0) = false := by rw [beq_eq_false_iff_ne]; omega
    cases g4 : opsOk e
    · have HF := hide (hN (evOk_ops g4)); clear hN hY hno hyes
      simp only [g4] at c3
      have C3 := Lib.hid c3; clear c3 g4
      go_enter Try.func24, Try.ntmps24
      go_wp2_with fail
      refine (C1.out _ Hp.out).mono ?_
      rintro e1 w1 ⟨rfl, hb1⟩
      have H1 := hide hb1; clear hb1
      go_wp2_with fail
      refine (C2.out _ (Hr.out.here H1.out)).mono ?_
      rintro e2 w2 ⟨rfl, hb2⟩
      have H2 := hide (H1.out.trans (hb2.mono H1.out.size)); clear hb2
      go_wp2_with fail
      refine (C3.out _ (Hr.out.here H2.out)).mono ?_
      rintro e3 w3 ⟨rfl, hb3⟩
      have H3 := hide (H2.out.trans (hb3.mono H2.out.size)); clear hb3
      go_wp2
      go_ret3
      exact ⟨retIBB HF.out, H3.out⟩
    · have Hops := hide (opsOk_iff.1 g4)
      have HY := hide (fun x b h => hY x b (hyes g3 g4) h); clear hN hY hno hyes
      simp only [g4] at c3
      have C3 := Lib.hid c3; clear c3 g4
      have Hg3 := hide g3
      generalize hR : evR env e = R at *
      obtain ⟨r1, r2⟩ := R
      have HF := hide (HY.out r1 r2 rfl); clear HY hR
      go_enter Try.func24, Try.ntmps24
      go_wp2_with fail
      refine (C1.out _ Hp.out).mono ?_
      rintro e1 w1 ⟨rfl, hb1⟩
      have H1 := hide hb1; clear hb1
      go_wp2_with fail
      refine (C2.out _ (Hr.out.here H1.out)).mono ?_
      rintro e2 w2 ⟨rfl, hb2⟩
      have H2 := hide (H1.out.trans (hb2.mono H1.out.size)); clear hb2
      go_wp2_with fail
      refine (C3.out _ (Hr.out.here H2.out)).mono ?_
      rintro e3 w3 ⟨rfl, hb3⟩
      have H3 := hide (H2.out.trans (hb3.mono H2.out.size)); clear hb3
      go_wp2_with fail
      refine (Hev.out _ (Hr.out.here H3.out) (Hp.out.here H3.out) Hops.out Hg3.out).mono ?_
      rintro e4 w4 ⟨rfl, hb4⟩
      have H4 := hide (H3.out.trans (hb4.mono H3.out.size)); clear hb4
      go_wp2
      go_ret3
      exact ⟨retIBB HF.out, H4.out⟩
  · have HF := hide (hN (hno g3)); clear hN hY hno hyes
    obtain rfl : S = 0 := by omega
    clear g3
    go_enter Try.func24, Try.ntmps24
    go_wp2_with fail
    refine (C1.out _ Hp.out).mono ?_
    rintro e1 w1 ⟨rfl, hb1⟩
    have H1 := hide hb1; clear hb1
    go_wp2_with fail
    refine (C2.out _ (Hr.out.here H1.out)).mono ?_
    rintro e2 w2 ⟨rfl, hb2⟩
    have H2 := hide (H1.out.trans (hb2.mono H1.out.size)); clear hb2
    go_wp2
    go_ret3
    exact ⟨retIBB HF.out, H2.out⟩

theorem run_all {vars : Int} {params : List Int} : ∀ (e : List P2) (x y : Int) (z : Int × Int), runE vars params e x y = some z → ∀ t ∈ e, tokOk vars params.length t = true := by
  intro e
  induction e with
  | nil => intro x y z _ t ht; simp at ht
  | cons a l ih =>
    intro x y z h t ht
    simp only [runE] at h
    by_cases g : tokOk vars params.length a = true ∧ need params a ≤ x
    · rw [if_pos g] at h
      rcases List.mem_cons.1 ht with rfl | ht
      · exact g.1
      · exact ih _ _ _ h t ht
    · rw [if_neg g] at h; cases h
theorem ops_not {e : List P2} {k : Nat} (hk : k < e.length) (h : e[k].o = 9 ∨ e[k].o = 10) : opsOk e = false := by
  cases g : opsOk e with
  | false => rfl
  | true => have := opsOk_iff.1 g _ (List.getElem_mem hk); omega
theorem ops_of {env : List Int} {e : List P2} (h : 0 < highOf env.length [] e) (h2 : ∀ j (hj : j < e.length), e[j].o ≠ 9 ∧ e[j].o ≠ 10) : opsOk e = true := by
  rw [opsOk_iff]
  intro t ht
  obtain ⟨m, hr, _⟩ := high_run h
  have hk := run_all _ _ _ _ hr t ht
  obtain ⟨j, hj, rfl⟩ := List.getElem_of_mem ht
  have := h2 j hj
  unfold tokOk at hk
  split at hk
  · omega
  · split at hk
    · omega
    · split at hk
      · have := inB_iff.1 hk; simp at this; omega
      · simp at hk; have := inB_iff.1 hk.1; omega

set_option maxHeartbeats 3200000 in
theorem spec_EvalPure (v : Value) (e : List P2) (ev : Value) (env : List Int) (w : World) (hr : Rd w w.heap.size v e.length (pcells e)) (hp : Rd w w.heap.size ev env.length (icells .i64 env)) :
    Calls Try.prog 23 #[v, ev] w fun e' w' => e' = .returned (.tuple #[.int .i64 (evF env e).1, .bool (evF env e).2.1, .bool (evF env e).2.2]) ∧ Below w.heap.size w w' := by
  have hl := hr.long; have hl2 := hp.long
  obtain ⟨A, c, rfl, hn, hc, hcell⟩ := id hr
  obtain ⟨A2, c2, rfl, hn2, hc2, hcell2⟩ := id hp
  have hN := @evF_no env e
  have hY := fun x b h h2 => @evF_yes env e x b h h2
  generalize evF env e = F at *
  have Hr := hide hr; have Hp := hide hp; clear hr hcell hp hcell2 hn hc hn2 hc2
  by_cases g1 : 6 < env.length
  · have HF := hide (hN (evOk_long g1)); clear hN hY
    go_enter Try.func23, Try.ntmps23
    go_wp2
    go_ret3
    exact ⟨retIBB HF.out, Below.refl _ _⟩
  have c1 := fun w B hp => spec_l1All (.slice A2 env.length c2) env (-2147483648) 2147483647 w B hp
  cases g2 : allIn env (-2147483648) 2147483647
  · have HF := hide (hN (evOk_all g2)); clear hN hY
    simp only [g2] at c1
    have C1 := Lib.hid c1; clear c1 g2
    go_enter Try.func23, Try.ntmps23
    go_wp2_with (go_at_call 57; refine (C1.out _ _ Hp.out).mono ?_; rintro e1 w1 ⟨rfl, rfl⟩)
    go_ret3
    exact ⟨retIBB HF.out, Below.refl _ _⟩
  have henv := allIn_iff.1 g2
  simp only [g2] at c1
  have C1 := Lib.hid c1; clear c1
  have hG : goodExpr e env.length [] = decide (0 < highOf env.length [] e) := by
    unfold goodExpr; rw [decide_eq_true (by omega), parOk_nil]; rfl
  have cg := fun w hr => spec_GoodExpr (.slice A e.length c) e env.length (.slice none 0 0) [] w hr Rd.nil
  by_cases g3 : 0 < highOf env.length [] e
  · rw [decide_eq_true g3] at hG
    simp only [hG] at cg
    have Cg := Lib.hid cg; clear cg hG
    have Hyes := hide (fun h4 => @evOk_yes env e g1 g2 g3 h4)
    have Hops := hide (fun h2 => @ops_of env e g3 h2)
    obtain ⟨mm, hrun0, he12⟩ := high_run g3
    have h1 := fun p x h hx => @evR_some env e p x h hx
    have h2 := @evR_none env e
    have HY := hide (fun x b h h2 => hY x b h h2); have HN := hide hN
    clear hY hN
    generalize evR env e = R at *
    have H1 := hide h1; have H2 := hide h2; have Henv := hide henv; have Hrun0 := hide hrun0; clear h1 h2 henv hrun0 g2 g3
    go_enter Try.func23, Try.ntmps23
    go_wp2_with (first
      | (go_at_call 57; refine (C1.out _ _ Hp.out).mono ?_; rintro e1 w1 ⟨rfl, rfl⟩)
      | (go_at_call 17; refine (Cg.out _ Hr.out).mono ?_; rintro e2 w2 ⟨rfl, hb2⟩))
    go_loopw [32] (fun i wr => ∃ k : Nat, k ≤ e.length ∧ i = .int .i64 k ∧ (∀ j (hj : j < e.length), j < k → e[j].o ≠ 9 ∧ e[j].o ≠ 10) ∧ Below w.heap.size w wr) (fun i _ => e.length - (intOf i).toNat)
    case atStart => exact ⟨0, by omega, rfl, fun j _ hj => by omega, hb2⟩
    case round =>
      obtain ⟨k, hk, rfl, hall, hb⟩ := hrel
      have hbs := hb.size
      by_cases hlt : k < e.length
      · obtain ⟨b, o, rfl, hbB, hs0, hs1⟩ := Hr.out.two' hb (Nat.le_refl _) hlt
        have hno := fun h => ops_not hlt h
        have hst : e[k].o ≠ 9 ∧ e[k].o ≠ 10 → ∀ j (hj : j < e.length), j < k + 1 → e[j].o ≠ 9 ∧ e[j].o ≠ 10 := fun h j hj hjk => by
          by_cases e1 : j = k
          · subst e1; exact h
          · exact hall j hj (by omega)
        have Hst := hide hst; have Hno := hide hno; have Hb := hide hb; clear hst hno hall hb hb2
        generalize e[k] = t at *
        obtain ⟨to, tn⟩ := t
        dsimp only at hs0 hs1
        by_cases o9 : to = 9
        · have HF := hide (HN.out (evOk_ops (Hno.out (.inl o9))))
          subst o9
          go_wp2
          go_ret3
          exact ⟨retIBB HF.out, Hb.out.alloc hbs _⟩
        by_cases o10 : to = 10
        · have HF := hide (HN.out (evOk_ops (Hno.out (.inr o10))))
          subst o10
          go_wp2
          go_ret3
          exact ⟨retIBB HF.out, Hb.out.alloc hbs _⟩
        have b1 : (to == 9) = false := by rw [beq_eq_false_iff_ne]; exact o9
        have b2 : (to == 10) = false := by rw [beq_eq_false_iff_ne]; exact o10
        have Hst' := hide (Hst.out ⟨o9, o10⟩)
        clear o9 o10
        go_wp2
        go_roundw
        case rel => exact ⟨k + 1, by omega, by go_num, Hst'.out, Hb.out.alloc hbs _⟩
        case measure => simp [intOf]; omega
      · obtain rfl : k = e.length := by omega
        have hops := opsOk_iff.1 (Hops.out (fun j hj => hall j hj hj))
        have hy := HY.out
        have HY' := hide (fun x b h2 => hy x b (Hyes.out (Hops.out (fun j hj => hall j hj hj))) h2)
        have Hops := hide hops; have Hb := hide hb
        clear hops hall HY hy hb hlt hk hb2
        obtain ⟨wo, rfl⟩ : ∃ wo : World, wo = wr := ⟨_, rfl⟩
        go_wp2
        go_loopw [7, 47] (fun pv i wr => ∃ (k : Nat) (p : List Int) (y : Int), k ≤ e.length ∧ i = .int .i64 k ∧ runE env.length [] (e.drop k) p.length y = some (1, mm) ∧ (∀ n ∈ p, -2147483648 ≤ n ∧ n ≤ 2147483647) ∧ p.length ≤ k ∧ evL env (e.drop k) p = evL env e [] ∧ wr.ownsRow w.heap.size 3 1 pv p.length (icells .i64 p) ∧ Below w.heap.size w wr) (fun _ i _ => e.length - (intOf i).toNat)
        case atStart => exact ⟨0, [], 0, by omega, rfl, Hrun0.out, by simp, by simp, rfl, World.ownsRow_nil _ _ _ _, Hb.out⟩
        case round =>
          obtain ⟨k, p, y, hk, rfl, hrun, hsm, hpk, hev, hown, hb⟩ := hrel
          have hbs := hb.size
          by_cases hlt : k < e.length
          · obtain ⟨b, o, rfl, hbB, hs0, hs1⟩ := Hr.out.two' hb (Nat.le_refl _) hlt
            obtain ⟨htok, hneed, y', hrun'⟩ := run_step hlt hrun
            have hop := Hops.out e[k] (List.getElem_mem hlt)
            have hE1 := fun h => (evL_num (env := env) (p := p) hlt h).symm.trans hev
            have hE2 := fun j h hn hj => (evL_var (env := env) (p := p) (j := j) hlt h hn hj).symm.trans hev
            have hE3 := fun q x y r a b c d => (evL_yes (env := env) (p := p) (q := q) (x := x) (y := y) (r := r) hlt a b c d).symm.trans hev
            have hE4 := fun q x y r a b c d => (evL_no (env := env) (p := p) (q := q) (x := x) (y := y) (r := r) hlt a b c d).symm.trans hev
            generalize e[k] = t at *
            obtain ⟨to, tn⟩ := t
            dsimp only at hs0 hs1 hop hE1 hE2 hE3 hE4
            have Hown := hide hown; have Hb := hide hb; have Hsm := hide hsm
            clear hown hb hsm hev hrun Hr
            have hal := Hown.out.alloc (.cells #[.int .i64 to, .int .i64 tn] 27)
            have hab := Hb.out.alloc hbs (.cells #[.int .i64 to, .int .i64 tn] 27)
            have Hal := hide hal; have Hab := hide hab; clear hal hab
            by_cases o1 : to = 1
            · subst o1
              have hnd : need [] ⟨1, tn⟩ = 0 := rfl
              rw [hnd, show ((p.length : Int) + 1 - 0) = ((p ++ [tn]).length : Int) by simp] at hrun'
              have htn : -2147483648 ≤ tn ∧ tn ≤ 2147483647 := inB_iff.1 htok
              have Hrun' := hide hrun'; have HE := hide (hE1 rfl); clear hE1 hE2 hE3 hE4 hrun' htok hneed hop hnd
              go_wp2_with (at_builtin; refine wpList_push' rfl _ _ _ rfl okI64 rfl Hal.out _ rfl (by rw [World.size_alloc]) rfl (by simp [Value.oneCell']) (by unfold maxLen; omega) (by omega) Hab.out.size ?_; intro v1 w1 hown1 hg1)
              go_roundw
              case rel => exact ⟨k + 1, p ++ [tn], y', by omega, by go_num, Hrun'.out, fun n hn => by rcases List.mem_append.1 hn with h | h; exact Hsm.out n h; simp at h; subst h; exact htn, by simp; omega, HE.out, by rw [List.length_append, icells_append]; exact hown1, belowPush Hab.out Hal.out Hab.out.size hg1⟩
              case measure => simp [intOf]; omega
            by_cases o2 : to = 2
            · subst o2
              have hnd : need [] ⟨2, tn⟩ = 0 := rfl
              rw [hnd, show ((p.length : Int) + 1 - 0) = ((p ++ [tn]).length : Int) by simp] at hrun'
              have htn : 0 ≤ tn ∧ tn ≤ (env.length : Int) - 1 := inB_iff.1 htok
              obtain ⟨j, rfl⟩ := Int.eq_ofNat_of_zero_le htn.1
              have hj : j < env.length := by omega
              obtain ⟨b2, o2, rfl, hbB2, hs⟩ := Hp.out.at_ (j := j) (by rw [icells_length]; exact hj)
              rw [icells_get _ _ hj] at hs
              have hsx := (Hb.out.cell (p := ⟨b2, o2 + j, none⟩) hbB2).trans hs
              have hbw : b2 < wr.heap.size := by omega
              have hsy := Henv.out env[j] (List.getElem_mem hj)
              have HE := hide (hE2 j rfl rfl hj)
              generalize env[j] = z at *
              rw [show ((p ++ [(j : Int)]).length : Int) = ((p ++ [z]).length : Int) by simp] at hrun'
              have Hrun' := hide hrun'; clear hE1 hE2 hE3 hE4 hrun' htok hneed hop hnd hs Hp
              go_wp2_with (at_builtin; refine wpList_push' rfl _ _ _ rfl okI64 rfl Hal.out _ rfl (by rw [World.size_alloc]) rfl (by simp [Value.oneCell']) (by unfold maxLen; omega) (by omega) Hab.out.size ?_; intro v1 w1 hown1 hg1)
              go_roundw
              case rel => exact ⟨k + 1, p ++ [z], y', by omega, by go_num, Hrun'.out, fun n hn => by rcases List.mem_append.1 hn with h | h; exact Hsm.out n h; simp at h; subst h; exact hsy, by simp; omega, HE.out, by rw [List.length_append, icells_append]; exact hown1, belowPush Hab.out Hal.out Hab.out.size hg1⟩
              case measure => simp [intOf]; omega
            have o3 : 3 ≤ to ∧ to ≠ 11 := by
              unfold tokOk at htok
              rw [if_neg o1, if_neg o2] at htok
              by_cases h11 : to = 11
              · omega
              · rw [if_neg h11] at htok; simp at htok; exact ⟨(inB_iff.1 htok.1).1, h11⟩
            have hnd : need [] ⟨to, tn⟩ = 2 := by unfold need; rw [if_neg o3.2, if_pos ⟨o3.1, hop⟩]
            rw [hnd] at hneed hrun'
            have hp2 : 2 ≤ p.length := by omega
            obtain ⟨q, x, y2, hpq, hql⟩ := two_last hp2
            have hx := Hsm.out x (by rw [hpq]; simp)
            have hy := Hsm.out y2 (by rw [hpq]; simp)
            have b1 : (to == 1) = false := by rw [beq_eq_false_iff_ne]; exact o1
            have b2 : (to == 2) = false := by rw [beq_eq_false_iff_ne]; exact o2
            obtain ⟨g, cap, rfl⟩ := own_some Hown.out (by omega)
            have hcap : p.length ≤ cap ∧ cap ≤ 9223372036854775807 := by
              obtain ⟨A', c', he, g1, g2, _⟩ := Rd.of_own Hown.out
              cases he; unfold maxLen at g2; exact ⟨g1, g2⟩
            obtain ⟨hcap1, hcap2⟩ := hcap
            have hcx : wr.cell? ⟨g, p.length - 2, none⟩ = some (.int .i64 x) := by rw [← hql, Hown.out.cellAt q.length (by omega)]; simp [icells, hpq]
            have hcy : wr.cell? ⟨g, p.length - 1, none⟩ = some (.int .i64 y2) := by rw [show p.length - 1 = q.length + 1 by omega, Hown.out.cellAt (q.length + 1) (by omega)]; simp [icells, hpq]
            have hg := (Hown.out.lt g rfl).2
            have hrs := rk_small to x y2
            have hE3' := fun r => hE3 q x y2 r o1 o2 hpq
            have hE4' := fun r => hE4 q x y2 r o1 o2 hpq
            have hrk := fun w => (spec_l2Reckon to x y2 hx.1 hx.2 hy.1 hy.2 w).mono fun e w' (h : _ ∧ w = w') => (⟨h.1, h.2.symm⟩ : _ ∧ w' = w)
            rcases hrr : rk to x y2 with ⟨rv, rb⟩
            simp only [hrr] at hrk hrs hE3' hE4'
            have Hrk := Lib.hid hrk; clear hrk hrr hE1 hE2 hE3 hE4 o1 o2 htok
            have Hpq := hide hpq; have Hql := hide hql; have Hrun' := hide hrun'; have Hneed := hide hneed
            have q0 : 0 ≤ (p.length : Int) - 2 := by omega
            have q1 : (p.length : Int) - 2 < p.length := by omega
            have q2 : ((p.length : Int) - 2).toNat = p.length - 2 := by omega
            have q3 : 0 ≤ (p.length : Int) - 1 := by omega
            have q4 : (p.length : Int) - 1 < p.length := by omega
            have q5 : ((p.length : Int) - 1).toNat = p.length - 1 := by omega
            have e1 : IntKind.i64.wrap ((p.length : Int) - 2) = (p.length : Int) - 2 := IntWalk.i64_in _ (by omega)
            have e2 : IntKind.i64.wrap ((p.length : Int) - 1) = (p.length : Int) - 1 := IntWalk.i64_in _ (by omega)
            clear hpq hql hrun' hneed hnd
            go_wp2_with fail
            go_quiet ((go_at_call 58; exact Calls.quiet_of_same (Hrk.out _)))
            rename_i nq
            clear e1 e2 q3 q4 q5
            have hW1 := own_drew Hal.out nq
            have hW2 : Below w.heap.size w ((wr.alloc (.cells #[.int .i64 to, .int .i64 tn] 27)).drewN nq) := below_drewN Hab.out nq
            generalize ((wr.alloc (.cells #[.int .i64 to, .int .i64 tn] 27)).drewN nq) = W at hW1 hW2 ⊢
            have hT := own_take hW1 (p.length - 2) (by omega)
            rw [show (icells .i64 p).take ((p.length - 2) * 1) = icells .i64 q by rw [Hpq.out, Nat.mul_one, show (q ++ [x, y2]).length - 2 = q.length by simp]; simp [icells]] at hT
            have HT := hide hT; have HW2 := hide hW2
            clear hW1 hW2 hT hcx hcy
            cases rb
            · have HF := hide (HY'.out _ _ (H2.out (hE4' rv rfl).symm)); clear hE3' hE4'
              go_wp2
              go_ret3
              exact ⟨retIBB HF.out, HW2.out⟩
            · have HE := hide (hE3' rv rfl); clear hE3' hE4'
              go_wp2_with (at_builtin; refine wpList_push' rfl _ _ _ rfl okI64 rfl HT.out _ rfl rfl rfl (by simp [Value.oneCell']) (by unfold maxLen; omega) (by omega) HW2.out.size ?_; intro v1 w1 hown1 hg1)
              go_roundw
              case rel => exact ⟨k + 1, q ++ [rv], y', by omega, by go_num, (by have := Hrun'.out; rw [show ((p.length : Int) + 1 - 2) = ((q ++ [rv]).length : Int) by rw [List.length_append, Hql.out, List.length_singleton]; omega] at this; exact this), fun n hn => by rcases List.mem_append.1 hn with h | h; exact Hsm.out n (by rw [Hpq.out]; simp [h]); simp at h; subst h; exact hrs, by rw [List.length_append, Hql.out, List.length_singleton]; omega, HE.out, by rw [List.length_append, Hql.out, List.length_singleton, icells_append]; exact hown1, belowPush HW2.out HT.out HW2.out.size hg1⟩
              case measure => simp [intOf]; omega
          · obtain rfl : k = e.length := by omega
            rw [List.drop_length] at hrun hev
            have hp1 : p.length = 1 := by simp only [runE, Option.some.injEq, Prod.mk.injEq] at hrun; omega
            have hp2 : ∃ x, p = [x] := by
              rcases p with _ | ⟨x, _ | ⟨z, l⟩⟩
              · simp at hp1
              · exact ⟨x, rfl⟩
              · simp at hp1
            obtain ⟨x, rfl⟩ := hp2
            have HF := hide (HY'.out _ _ (H1.out [x] x hev.symm rfl))
            have Hown := hide hown
            obtain ⟨g, cap, rfl⟩ := own_some hown (by simp)
            have hc := hown.cellAt 0 (by simp)
            have hc' : wr.cell? ⟨g, 0, none⟩ = some (.int .i64 x) := by rw [hc]; simp [icells]
            clear hc hown hrun hev hp1 hsm
            go_wp2
            go_ret3
            exact ⟨retIBB HF.out, hb⟩
  · rw [decide_eq_false g3] at hG
    have HF := hide (hN (evOk_high g3))
    simp only [hG] at cg
    have Cg := Lib.hid cg; clear cg hG hN hY g3
    go_enter Try.func23, Try.ntmps23
    go_wp2_with (first
      | (go_at_call 57; refine (C1.out _ _ Hp.out).mono ?_; rintro e1 w1 ⟨rfl, rfl⟩)
      | (go_at_call 17; refine (Cg.out _ Hr.out).mono ?_; rintro e2 w2 ⟨rfl, hb2⟩))
    go_ret3
    exact ⟨retIBB HF.out, hb2⟩
end Go.Proofs.Ytgcbjphbeifbkaa
