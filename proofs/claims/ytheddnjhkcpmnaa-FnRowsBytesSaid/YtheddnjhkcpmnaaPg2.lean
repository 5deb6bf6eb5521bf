
/- isShaped: what the Go text returns. No condition. -/
import Derived.Test.YtheddnjhkcpmnaaPg1
set_option linter.unusedSimpArgs false
set_option linter.unusedVariables false
set_option maxRecDepth 100000
namespace Go.Proofs.Ytheddnjhkcpmnaa
open Go.RowKit

/-- ContainsFunc over numbers that are read, with what the closure captured -/
theorem anyIntC (v : Value) (l : List Int) (p : Int → Bool) (g : Nat) (lb : Array Value) (eg : ∀ args w, (callFunc g args).run Try.prog w = .ok (.enter g args) w) (w : World) (hr : Rd w w.heap.size v l.length (icells .i64 l))
    (hp : ∀ n W, Below w.heap.size w W → Calls Try.prog g (#[.int .i64 n] ++ lb) W fun e w' => e = .returned (.bool (p n)) ∧ Below W.heap.size W w') :
    Calls Try.prog 133 #[v, .func (.func g) #[] lb] w fun e w' => e = .returned (.bool (l.any p)) ∧ Below w.heap.size w w' := by
  have hl := hr.long
  obtain ⟨A, c, rfl, hn, hc, hcell⟩ := id hr
  rw [← anyq_list (q := fun j => p (l.getD j 0)) (p := p) (l := l) (fun j hj => by simp [List.getD, List.getElem?_eq_getElem hj])]
  refine cfI A l.length c (fun j => .int .i64 (l.getD j 0)) _ g lb eg w hl (fun j hj => ?_) (fun j hj W hW => hp _ W hW)
  obtain ⟨b, o, hA, hbB, hs⟩ := hr.at_ (j := j) (by rw [icells_length]; exact hj)
  rw [icells_get _ _ hj] at hs
  exact ⟨b, o, hA, hbB, by rw [hs]; simp [List.getD, List.getElem?_eq_getElem hj]⟩
theorem any_notIn {l : List Int} {lo hi : Int} : (l.any fun n => !inB n lo hi) = !inAll l lo hi := by
  unfold inAll; rw [List.all_eq_not_any_not]; simp

theorem impl_isShaped1 (n i : Int) (m c gi gf : Nat) (A : Option Addr) (w : World) (hi : 0 ≤ i) (hi2 : i ≤ 1000000) (hm : m ≤ 1000000) (h1 : w.cell? ⟨gi, 0, none⟩ = some (.int .i64 i)) (h2 : w.cell? ⟨gf, 3, none⟩ = some (.slice A m c)) :
    Calls Try.prog 135 #[.int .i64 n, .pointer (some ⟨gi, 0, none⟩), .pointer (some ⟨gf, 0, none⟩)] w fun e w' => e = .returned (.bool (!inB n (i + 1) (m - 1))) ∧ Below w.heap.size w w' := by
  go_enter Try.func135, Try.ntmps135
  go_wp2_with (go_at_call 79; refine (impl_within n _ _ _).mono ?_; rintro e w' ⟨rfl, rfl⟩)
  go_ret
  exact ⟨rfl, Below.refl _ _⟩
theorem impl_isShaped2 (n : Int) (m c gf : Nat) (A : Option Addr) (w : World) (hm : m ≤ 1000000) (h2 : w.cell? ⟨gf, 3, none⟩ = some (.slice A m c)) :
    Calls Try.prog 136 #[.int .i64 n, .pointer (some ⟨gf, 0, none⟩)] w fun e w' => e = .returned (.bool (!inB n 0 (m - 1))) ∧ Below w.heap.size w w' := by
  go_enter Try.func136, Try.ntmps136
  go_wp2_with (go_at_call 79; refine (impl_within n _ _ _).mono ?_; rintro e w' ⟨rfl, rfl⟩)
  go_ret
  exact ⟨rfl, Below.refl _ _⟩
theorem intL_range_get {n k : Nat} {a : List Int} (h : a = intL (List.range n)) (hk : k < a.length) : a[k] = (k : Int) := by
  subst h; simp [intL]
theorem intL_range_of {n : Nat} {a : List Int} (h : a.length = n) (h2 : ∀ j (hj : j < a.length), a[j] = (j : Int)) : a = intL (List.range n) := by
  apply List.ext_getElem
  · rw [h, intL_length, List.length_range]
  · intro i h1 h3; rw [h2 i h1]; simp [intL]
theorem all_take_step {α : Type} {p : α → Bool} {l : List α} {k : Nat} (hk : k < l.length) (h1 : (l.take k).all p = true) (h2 : p l[k] = true) : (l.take (k + 1)).all p = true := by
  rw [List.take_succ_eq_append_getElem hk, List.all_append, h1]; simp [h2]
theorem all_false {α : Type} {p : α → Bool} {l : List α} {k : Nat} (hk : k < l.length) (h2 : p l[k] = false) : l.all p = false := by
  rw [Bool.eq_false_iff]; intro h; rw [List.all_eq_true] at h; have := h _ (List.getElem_mem hk); rw [h2] at this; cases this

theorem ix0 (a b : Value) (w : World) : (Instr.index 147 (.agg #[a, b]) (.int .i64 0)).run Try.prog w = .ok a w := by kernel_rfl
theorem ix1 (a b : Value) (w : World) : (Instr.index 147 (.agg #[a, b]) (.int .i64 1)).run Try.prog w = .ok b w := by kernel_rfl

set_option maxHeartbeats 6400000 in
theorem impl_isShaped (cs : List Value) (m : FuncM) (w : World) (hr : RFunc w 0 w.heap.size cs m) (hz : szFuncN m ≤ 1048576) :
    Calls Try.prog 116 #[.agg cs.toArray] w fun e w' => e = .returned (.bool (shapedB m)) ∧ Below w.heap.size w w' := by
  have hr0 := hr
  obtain ⟨v2, v3, rfl, h2, h3⟩ := hr
  obtain ⟨m0, m1, body, l⟩ := m
  dsimp only at *
  obtain ⟨A3, c3, rfl⟩ := h3.form
  obtain ⟨A2, c2, rfl⟩ := h2.form
  have hbl : body.length ≤ 1048576 := by have : szFuncN ⟨m0, m1, body, l⟩ = body.length + szStmtsN l := rfl; omega
  have hel : ∀ k (h : k < l.length), l[k].qThen.length ≤ 1048576 ∧ l[k].qElse.length ≤ 1048576 := fun k h => by
    have h1 : szFuncN ⟨m0, m1, body, l⟩ = body.length + szStmtsN l := rfl
    have h2 : szStmtsN l = l.length + szStmtsL l := rfl
    have h3 := szStmtsL_mem h
    have h4 : szStmtN l[k] = l[k].qEx.length + (l[k].qThen.length + l[k].qElse.length) := rfl
    omega
  have Hel := hide hel; clear hel hz
  have hll := h3.long
  have f1 : inB m0 0 2 = false → shapedB ⟨m0, m1, body, l⟩ = false := fun h => by unfold shapedB; simp [h]
  have f2 : inB m1 m0 6 = false → shapedB ⟨m0, m1, body, l⟩ = false := fun h => by unfold shapedB; simp [h]
  have f3 : ¬ l.length ≤ 16 → shapedB ⟨m0, m1, body, l⟩ = false := fun h => by unfold shapedB; simp only []; rw [decide_eq_false h]; simp
  have f4 : ¬ (sitesF 0 l).length ≤ 4 → shapedB ⟨m0, m1, body, l⟩ = false := fun h => by unfold shapedB; simp only []; rw [decide_eq_false h]; simp
  have f5 : latB l.length 0 l = false → shapedB ⟨m0, m1, body, l⟩ = false := fun h => by unfold shapedB; simp [h]
  have f6 : ¬ body.length + usesL l = l.length → shapedB ⟨m0, m1, body, l⟩ = false := fun h => by unfold shapedB; simp only []; rw [decide_eq_false h]; simp
  have f7 : inAll body 0 (l.length - 1) = false → shapedB ⟨m0, m1, body, l⟩ = false := fun h => by unfold shapedB; simp [h]
  have f8 : ordI l body ≠ intL (List.range l.length) → shapedB ⟨m0, m1, body, l⟩ = false := fun h => by unfold shapedB; simp only []; rw [decide_eq_false h]; simp
  have f9 : l.all (whOk l) = false → shapedB ⟨m0, m1, body, l⟩ = false := fun h => by unfold shapedB; simp only []; rw [h]; simp
  have ft : inB m0 0 2 = true → inB m1 m0 6 = true → l.length ≤ 16 → (sitesF 0 l).length ≤ 4 → latB l.length 0 l = true → body.length + usesL l = l.length → inAll body 0 (l.length - 1) = true → ordI l body = intL (List.range l.length) → l.all (whOk l) = true → shapedB ⟨m0, m1, body, l⟩ = true := by
    intro a1 a2 a3 a4 a5 a6 a7 a8 a9; unfold shapedB; simp only []; rw [a1, a2, decide_eq_true a3, decide_eq_true a4, a5, decide_eq_true a6, a7, decide_eq_true a8, a9]; rfl
  generalize shapedB ⟨m0, m1, body, l⟩ = R at *
  have hb0 := (Below.refl w.heap.size w).alloc (Nat.le_refl _) (.cells #[.int .i64 m0, .int .i64 m1, .slice A2 body.length c2, .slice A3 l.length c3] 59)
  have hk0 := Bk.new w 59 #[.int .i64 m0, .int .i64 m1, .slice A2 body.length c2, .slice A3 l.length c3]
  have Hr0 := hide hr0; have H2 := hide h2; have H3 := hide h3; have Hb0 := hide hb0; have Hk0 := hide hk0
  clear hr0 h2 h3 hb0 hk0
  have hw0 := fun w => impl_within m0 0 2 w
  have hw1 := fun w => impl_within m1 m0 6 w
  cases g1 : inB m0 0 2
  case false =>
    simp only [g1] at hw0
    have HF := hide (f1 g1); have HW0 := Lib.hid hw0; clear f1 f2 f3 f4 f5 f6 f7 f8 f9 ft hw0 hw1 g1
    go_enter Try.func116, Try.ntmps116
    go_wp2_with (go_at_call 79; refine (HW0.out _).mono ?_; rintro e w' ⟨rfl, rfl⟩)
    go_ret
    exact ⟨retB HF.out.symm, Hb0.out⟩
  simp only [g1] at hw0
  have ft := ft g1
  clear f1 g1
  cases g2 : inB m1 m0 6
  case false =>
    simp only [g2] at hw1
    have HF := hide (f2 g2); have HW0 := Lib.hid hw0; have HW1 := Lib.hid hw1; clear f2 f3 f4 f5 f6 f7 f8 f9 ft hw0 hw1 g2
    go_enter Try.func116, Try.ntmps116
    go_wp2_with (go_at_call 79; first | ((with_reducible refine (HW0.out _).mono ?_); rintro e w' ⟨rfl, rfl⟩) | ((with_reducible refine (HW1.out _).mono ?_); rintro e w' ⟨rfl, rfl⟩))
    go_ret
    exact ⟨retB HF.out.symm, Hb0.out⟩
  simp only [g2] at hw1
  have ft := ft g2
  have HW0 := Lib.hid hw0; have HW1 := Lib.hid hw1
  clear f2 g2 hw0 hw1
  by_cases g3 : l.length ≤ 16
  case neg =>
    have HF := hide (f3 g3); clear f3 f4 f5 f6 f7 f8 f9 ft
    have g3' : (16 : Int) < l.length := by omega
    clear g3
    go_enter Try.func116, Try.ntmps116
    go_wp2_with (go_at_call 79; first | ((with_reducible refine (HW0.out _).mono ?_); rintro e w' ⟨rfl, rfl⟩) | ((with_reducible refine (HW1.out _).mono ?_); rintro e w' ⟨rfl, rfl⟩))
    go_ret
    exact ⟨retB HF.out.symm, Hb0.out⟩
  have ft := ft g3
  clear f3
  have hsites := impl_sitesOf _ ⟨m0, m1, body, l⟩ _ (RFunc_stable.here Hr0.out Hb0.out) g3
  have Hsites := hide hsites; clear hsites
  have g3' : (l.length : Int) ≤ 16 := by omega
  have hsl : (sitesF 0 l).length ≤ 16 := Nat.le_trans (sitesF_length l 0) g3
  by_cases g4 : (sitesF 0 l).length ≤ 4
  case neg =>
    have HF := hide (f4 g4); clear f4 f5 f6 f7 f8 f9 ft
    generalize (sitesF 0 l).length = ns at *
    have g4' : (4 : Int) < ns := by omega
    clear g4
    go_enter Try.func116, Try.ntmps116
    go_wp2_with (first
    | (go_at_call 79; first | ((with_reducible refine (HW0.out _).mono ?_); rintro e w' ⟨rfl, rfl⟩) | ((with_reducible refine (HW1.out _).mono ?_); rintro e w' ⟨rfl, rfl⟩))
    | (go_at_call 93; refine (Hsites.out).mono ?_; rintro e w1 ⟨sv, rfl, hown, hb1⟩; obtain ⟨As, cs', rfl⟩ := own_form hown; have Hb1 := hide (Hb0.out.trans (hb1.mono Hb0.out.size)); have Hk1 := hide (Hk0.out.below hb1); have q2 := Hk1.out.cell 2; have q3 := Hk1.out.cell 3; clear hown hb1))
    go_ret
    exact ⟨retB HF.out.symm, Hb1.out⟩
  have ft := ft g4
  clear f4
  generalize (sitesF 0 l).length = ns at *
  have g4' : (ns : Int) ≤ 4 := by omega
  obtain ⟨tot, htot⟩ : ∃ t, t = body.length + usesL l := ⟨_, rfl⟩
  have hf6 := f6; have hft := ft
  rw [← htot] at f6 ft
  have Htot := hide htot; have F5 := hide f5; have F6 := hide f6; have F7 := hide f7; have F8 := hide f8; have F9 := hide f9; have FT := hide ft
  clear htot f5 f6 f7 f8 f9 ft hf6 hft g4
  go_enter Try.func116, Try.ntmps116
  go_wp2_with (first
    | (go_at_call 79; first | ((with_reducible refine (HW0.out _).mono ?_); rintro e w' ⟨rfl, rfl⟩) | ((with_reducible refine (HW1.out _).mono ?_); rintro e w' ⟨rfl, rfl⟩))
    | (go_at_call 93; refine (Hsites.out).mono ?_; rintro e w1 ⟨sv, rfl, hown, hb1⟩; obtain ⟨As, cs', rfl⟩ := own_form hown; have Hb1 := hide (Hb0.out.trans (hb1.mono Hb0.out.size)); have Hk1 := hide (Hk0.out.below hb1); have q2 := Hk1.out.cell 2; have q3 := Hk1.out.cell 3; clear hown hb1))
  clear q2 q3
  go_loopw [3, 45] (fun u i wr => ∃ (k uu : Nat), k ≤ l.length ∧ i = .int .i64 k ∧ u = .int .i64 uu ∧ uu + usesL (l.drop k) = tot ∧ (k ≤ 16 ∧ uu ≤ 1048576 * (2 * k + 1)) ∧ latB l.length k (l.drop k) = latB l.length 0 l ∧ Below w.heap.size w wr ∧ Bk wr w.heap.size 59 #[.int .i64 m0, .int .i64 m1, .slice A2 body.length c2, .slice A3 l.length c3]) (fun _ i _ => l.length - (intOf i).toNat)
  case atStart => exact ⟨0, body.length, by omega, rfl, rfl, by rw [Htot.out]; simp, ⟨by omega, by omega⟩, by simp, Hb1.out, Hk1.out⟩
  case round =>
    obtain ⟨k, uu, hk, rfl, rfl, hu, ⟨hk16, huu⟩, hlat, hb, hbk⟩ := hrel
    by_cases hlt : k < l.length
    · obtain ⟨b, o, A5, c5, A6, c6, A7, c7, rfl, hbB, d0, d1, d2, d3, d4, x2, x3, x4⟩ := RStmt_lit H3.out hlt
      have e0 := (hb.cell (p := ⟨b, o + k * 5, none⟩) hbB).trans d0
      have e1 := (hb.cell (p := ⟨b, o + k * 5 + 1, none⟩) hbB).trans d1
      have e2 := (hb.cell (p := ⟨b, o + k * 5 + 2, none⟩) hbB).trans d2
      have e3 := (hb.cell (p := ⟨b, o + k * 5 + 3, none⟩) hbB).trans d3
      have e4 := (hb.cell (p := ⟨b, o + k * 5 + 4, none⟩) hbB).trans d4
      have hus := usesL_step hlt
      have hly := fun a b => (latB_yes (n := l.length) hlt a b).symm.trans hlat
      have hln := fun h => hlat.symm.trans (latB_no (n := l.length) hlt h)
      obtain ⟨rest, hrest⟩ : ∃ r, r = usesL (l.drop (k + 1)) := ⟨_, rfl⟩
      rw [hus, ← hrest] at hu
      obtain ⟨n6, n7⟩ := Hel.out k hlt
      have hbs := hb.size
      have q2 := hbk.cell 2; have q3 := hbk.cell 3
      have Hb := hide hb; have Hbk := hide hbk; have Hrest := hide hrest; have X3 := hide x3; have X4 := hide x4
      clear hb hbk hrest x2 x3 x4 hus hlat d0 d1 d2 d3 d4
      have hbw : b < wr.heap.size := by omega
      generalize l[k] = s at *
      obtain ⟨s0, s1, s2, s3, s4⟩ := s
      dsimp only at *
      have hb2 := (Hb.out.alloc hbs (.cells #[.int .i64 k] 3)).alloc (by rw [World.size_alloc]; omega) (.cells #[.int .i64 s0, .int .i64 s1, .slice A5 s2.length c5, .slice A6 s3.length c6, .slice A7 s4.length c7] 103)
      have hk2 := (Hbk.out.alloc (.cells #[.int .i64 k] 3)).alloc (.cells #[.int .i64 s0, .int .i64 s1, .slice A5 s2.length c5, .slice A6 s3.length c6, .slice A7 s4.length c7] 103)
      have hi2 := (Bk.new wr 3 #[.int .i64 k]).alloc (.cells #[.int .i64 s0, .int .i64 s1, .slice A5 s2.length c5, .slice A6 s3.length c6, .slice A7 s4.length c7] 103)
      have Hb2 := hide hb2; have Hk2 := hide hk2; have Hi2 := hide hi2; clear hb2 hk2 hi2
      have hzz : wr.heap.size < ((wr.alloc (.cells #[.int .i64 k] 3)).alloc (.cells #[.int .i64 s0, .int .i64 s1, .slice A5 s2.length c5, .slice A6 s3.length c6, .slice A7 s4.length c7] 103)).heap.size := by rw [World.size_alloc, World.size_alloc]; omega
      have hcl : ∀ (x : List Int) (W : World), Bk W wr.heap.size 3 #[.int .i64 k] → Bk W w.heap.size 59 #[.int .i64 m0, .int .i64 m1, .slice A2 body.length c2, .slice (some ⟨b, o, none⟩) l.length c3] → ∀ v, Rd W W.heap.size v x.length (icells .i64 x) →
          Calls Try.prog 133 #[v, .func (.func 135) #[] #[.pointer (some ⟨wr.heap.size, 0, none⟩), .pointer (some ⟨w.heap.size, 0, none⟩)]] W fun e w' => e = .returned (.bool (!inAll x (k + 1) (l.length - 1))) ∧ Below W.heap.size W w' := fun x W h1 h2 v hv => by
        rw [← any_notIn]
        exact anyIntC v x _ 135 _ (enters_of Try.func135 (by kernel_rfl) rfl) W hv (fun n W' hW' => impl_isShaped1 n k l.length c3 _ _ _ W' (by omega) (by omega) (by omega) ((h1.below hW').cell 0) ((h2.below hW').cell 3))
      have Hcl := Lib.hid hcl; clear hcl
      go_wp2_with fail
      go_loopw [3, 55] (fun u j wq => ∃ (j' x : Nat), j' ≤ 2 ∧ j = .int .i64 j' ∧ u = .int .i64 x ∧ (j' = 0 → x = uu) ∧ (j' = 1 → x = uu + s3.length) ∧ (j' = 2 → x = uu + s3.length + s4.length) ∧ (1 ≤ j' → inAll s3 (k + 1) (l.length - 1) = true) ∧ (2 ≤ j' → inAll s4 (k + 1) (l.length - 1) = true) ∧ Below w.heap.size w wq ∧ Bk wq w.heap.size 59 #[.int .i64 m0, .int .i64 m1, .slice A2 body.length c2, .slice (some ⟨b, o, none⟩) l.length c3] ∧ Bk wq wr.heap.size 3 #[.int .i64 k]) (fun _ j _ => 2 - (intOf j).toNat)
      case atStart => exact ⟨0, uu, by omega, rfl, rfl, fun _ => rfl, by omega, by omega, by omega, by omega, Hb2.out, Hk2.out, Hi2.out⟩
      case round =>
        obtain ⟨j', x, hj', rfl, rfl, hx0, hx1, hx2, hin1, hin2, hbq, hkq, hiq⟩ := hrel
        have Hbq := hide hbq; have Hkq := hide hkq; have Hiq := hide hiq; have Hbqs := hbq.size
        clear hbq hkq hiq e0 e1 e2 e3 e4 q2 q3
        rcases (show j' = 0 ∨ j' = 1 ∨ j' = 2 by omega) with rfl | rfl | rfl
        · obtain rfl := hx0 rfl
          have hcc := Hcl.out s3 _ Hiq.out Hkq.out (.slice A6 s3.length c6) (X3.out.rd.here Hbq.out)
          have hin0 := hin1
          have Hin := hide hin0
          clear hx0 hx1 hx2 hin1 hin2 hin0
          have hix := ix0 (.slice A6 s3.length c6) (.slice A7 s4.length c7)
          cases hx : inAll s3 (k + 1) (l.length - 1)
          · rw [hx] at hcc
            have Hcc := hide hcc; have HF := hide (F5.out (hln (.inl hx))); clear hcc hx hly hln
            go_wp2_with fail
            refine (Hcc.out).mono ?_
            rintro e w3 ⟨rfl, hb3⟩
            have Hb3 := hide (Hbq.out.trans (hb3.mono Hbqs)); clear hb3
            go_wp2
            go_ret
            exact ⟨retB HF.out.symm, Hb3.out⟩
          · rw [hx] at hcc
            have Hcc := hide hcc; have Hx := hide hx; clear hcc hx hly hln
            go_wp2_with fail
            refine (Hcc.out).mono ?_
            rintro e w3 ⟨rfl, hb3⟩
            have Hb3 := hide (Hbq.out.trans (hb3.mono Hbqs)); have Hk3 := hide (Hkq.out.below hb3); have Hi3 := hide (Hiq.out.below hb3); clear hb3
            go_wp2
            go_roundw
            case rel => exact ⟨1, x + s3.length, by omega, by go_num, by go_num, by omega, fun _ => rfl, by omega, fun _ => (by first | exact Hx.out | trivial), by omega, Hb3.out, Hk3.out, Hi3.out⟩
            case measure => simp [intOf]
        · obtain rfl := hx1 rfl
          have hcc := Hcl.out s4 _ Hiq.out Hkq.out (.slice A7 s4.length c7) (X4.out.rd.here Hbq.out)
          have hin0 := hin1
          have Hin := hide hin0
          clear hx0 hx1 hx2 hin1 hin2 hin0
          have hix := ix1 (.slice A6 s3.length c6) (.slice A7 s4.length c7)
          cases hx : inAll s4 (k + 1) (l.length - 1)
          · rw [hx] at hcc
            have Hcc := hide hcc; have HF := hide (F5.out (hln (.inr hx))); clear hcc hx hly hln
            go_wp2_with fail
            refine (Hcc.out).mono ?_
            rintro e w3 ⟨rfl, hb3⟩
            have Hb3 := hide (Hbq.out.trans (hb3.mono Hbqs)); clear hb3
            go_wp2
            go_ret
            exact ⟨retB HF.out.symm, Hb3.out⟩
          · rw [hx] at hcc
            have Hcc := hide hcc; have Hx := hide hx; clear hcc hx hly hln
            go_wp2_with fail
            refine (Hcc.out).mono ?_
            rintro e w3 ⟨rfl, hb3⟩
            have Hb3 := hide (Hbq.out.trans (hb3.mono Hbqs)); have Hk3 := hide (Hkq.out.below hb3); have Hi3 := hide (Hiq.out.below hb3); clear hb3
            go_wp2
            go_roundw
            case rel => exact ⟨2, uu + s3.length + s4.length, by omega, by go_num, by go_num, by omega, by omega, fun _ => rfl, fun _ => (by first | exact Hin.out (by omega) | trivial), fun _ => (by first | exact Hx.out | trivial), Hb3.out, Hk3.out, Hi3.out⟩
            case measure => simp [intOf]
        · obtain rfl := hx2 rfl
          have Hlat := hide (hly (hin1 (by omega)) (hin2 (by omega)))
          clear hx0 hx1 hx2 hin1 hin2 hly hln
          go_wp2
          go_roundw
          case rel => exact ⟨k + 1, uu + s3.length + s4.length, by omega, by go_num, rfl, by rw [← Hrest.out]; omega, ⟨by omega, by omega⟩, Hlat.out, Hbq.out, Hkq.out⟩
          case measure => simp [intOf]; omega
    · obtain rfl : k = l.length := by omega
      rw [List.drop_length] at hu hlat
      have hlat' : latB l.length 0 l = true := by rw [← hlat]; rfl
      have hu' : uu = tot := by rw [← hu]; simp [usesL]
      subst hu'
      have q2 := hbk.cell 2; have q3 := hbk.cell 3
      have Hb := hide hb; have Hbk := hide hbk; have Hlat := hide hlat'
      clear hb hbk hlat hu hlat'
      by_cases g6 : uu = l.length
      case neg =>
        have HF := hide (F6.out g6)
        have g6' : ((uu : Int) != (l.length : Int)) = true := by rw [bne_iff_ne]; omega
        clear g6
        go_wp2
        go_ret
        exact ⟨retB HF.out.symm, Hb.out⟩
      have g6' : ((uu : Int) != (l.length : Int)) = false := by rw [bne_eq_false_iff_eq]; omega
      have Hg6 := hide g6
      have hbody16 : body.length ≤ 16 ∧ usesL l ≤ 16 := by have := Htot.out; omega
      have Hsum := hide (show body.length + usesL l = l.length by have := Htot.out; omega)
      have hcc := anyIntC (.slice A2 body.length c2) body (fun n => !inB n 0 (l.length - 1)) 136 #[.pointer (some ⟨w.heap.size, 0, none⟩)] (enters_of Try.func136 (by kernel_rfl) rfl) wr (H2.out.rd.here Hb.out) (fun n W hW => impl_isShaped2 n l.length c3 _ _ W (by omega) ((Hbk.out.below hW).cell 3))
      rw [any_notIn] at hcc
      cases g7 : inAll body 0 (l.length - 1)
      · rw [g7] at hcc
        have Hcc := hide hcc; have HF := hide (F7.out g7); clear hcc g7 hbody16
        go_wp2_with (go_at_call 133; refine (Hcc.out).mono ?_; rintro e w3 ⟨rfl, hb3⟩)
        go_ret
        exact ⟨retB HF.out.symm, Hb.out.trans (hb3.mono Hb.out.size)⟩
      rw [g7] at hcc
      have Hcc := hide hcc; have G7 := hide g7; clear hcc g7
      obtain ⟨hb16, hu16⟩ := hbody16
      have hord := ordI_bound Hlat.out hu16 (lo := 0) (by omega) G7.out hb16
      have hbin : ∀ x ∈ body, 0 ≤ x ∧ x < l.length ∧ l.length ≤ x + (l.length : Nat) := fun x hx => by have := (inAll_iff.1 G7.out) x hx; omega
      have Hbin := hide hbin; have Hord := hide hord; clear hbin hord g6
      go_wp2_with (go_at_call 133; refine (Hcc.out).mono ?_; rintro e w3 ⟨rfl, hb3⟩; have Hb3 := hide (Hb.out.trans (hb3.mono Hb.out.size)); have Hk3 := hide (Hbk.out.below hb3); have p0 := Hk3.out.cell 0; have p1 := Hk3.out.cell 1; have p2 := Hk3.out.cell 2; have p3 := Hk3.out.cell 3; clear hb3)
      have hO := impl_orderOf m0 m1 body l Hlat.out g3 l.length body [] (.slice A2 body.length c2) (.slice none 0 0) w3 w3.heap.size _ (RFunc_stable.here Hr0.out Hb3.out) (Nat.le_refl _) (H2.out.rd.here Hb3.out) (World.ownsRow_nil _ _ _ _) Hbin.out (by have := Hord.out; unfold ordI at this; rw [intL_length] at this; simp; omega)
      have HO := hide hO; clear hO
      have hlto : ∀ b' : List Int, (∀ x ∈ natL b', x < l.length) → ∀ x ∈ ordI l b', ∃ y : Nat, x = (y : Int) ∧ y < l.length := fun b' hb' x hx => by
        obtain ⟨y, hy, rfl⟩ := List.mem_map.1 hx
        refine ⟨y, rfl, ?_⟩
        have := ord_lt (later_of Hlat.out) l.length (natL b') (fun z hz => by rw [kidsOf_length]; exact hb' z hz) y hy
        rwa [kidsOf_length] at this
      have Hlto := hide hlto; clear hlto
      refine (HO.out).mono ?_
      rintro e w4 ⟨ov, rfl, hown, hgr⟩
      have hb4 := hgr.toBelow (World.ownsRow_nil w3 w3.heap.size 3 1) (Nat.le_refl _)
      have hown2 : w4.ownsRow w3.heap.size 3 1 ov (ordI l body).length (icells .i64 (ordI l body)) := hown
      clear hown hgr p0 p1 p2 p3
      obtain ⟨ord, hord⟩ : ∃ o, o = ordI l body := ⟨_, rfl⟩
      rw [← hord] at hown2
      have Hordd := hide hord
      have F8' := F8.out
      rw [← hord] at F8'
      have F8'' := hide F8'
      have Hol := Hord.out
      rw [← hord] at Hol
      clear hord F8'
      have Hrd := hide (Rd.of_own hown2)
      obtain ⟨Ao, co, rfl⟩ := own_form hown2
      have Hb4 := hide (Hb3.out.trans (hb4.mono Hb3.out.size)); have Hk4 := hide (Hk3.out.below hb4)
      clear hown2 hb4
      go_wp2_with fail
      go_loop [84] (fun i => ∃ k : Nat, k ≤ ord.length ∧ i = .int .i64 k ∧ ∀ j (hj : j < ord.length), j < k → ord[j] = (j : Int)) (fun i => ord.length - (intOf i).toNat)
      case atStart => exact ⟨0, by omega, rfl, fun j _ h => by omega⟩
      case round =>
        obtain ⟨k, hk, rfl, hid⟩ := hrel
        by_cases hlt : k < ord.length
        · obtain ⟨b, o, e1, hbB, s0⟩ := Hrd.out.at_ (j := k) (by rw [icells_length]; exact hlt)
          cases e1
          rw [icells_get _ _ hlt] at s0
          by_cases hx : ord[k] = (k : Int)
          · have hbx : (((k : Nat) : Int) != ((k : Nat) : Int)) = false := by simp
            rw [hx] at s0
            have Hid' := hide hid; have Hx := hide hx; clear hid hx
            go_wp2
            go_round
            case rel =>
              refine ⟨k + 1, by omega, by go_num, fun j hj hjk => ?_⟩
              by_cases e : j = k
              · subst e; exact Hx.out
              · exact Hid'.out j hj (by omega)
            case measure => simp [intOf]; omega
          · have HF := hide (F8''.out (fun e => hx (intL_range_get e hlt)))
            generalize ord[k] = x at *
            have hbx : (x != ((k : Nat) : Int)) = true := by rw [bne_iff_ne]; exact hx
            clear hid hx
            go_wp2
            go_ret
            exact ⟨retB HF.out.symm, Hb4.out⟩
        · obtain rfl : k = ord.length := by omega
          have hidd : ∀ j (hj : j < ord.length), ord[j] = (j : Int) := fun j hj => hid j hj hj
          have Hid' := hide hidd; clear hid hidd
          have p2 := Hk4.out.cell 2; have p3 := Hk4.out.cell 3
          by_cases hlen : ord.length = l.length
          · have Hr8 := hide (intL_range_of hlen Hid'.out)
            have hbl2 : ((ord.length : Int) == (l.length : Int)) = true := by rw [beq_iff_eq]; omega
            have F9' := F9.out
            have FT' := FT.out (by omega) Hlat.out Hg6.out G7.out (Hordd.out.symm.trans Hr8.out)
            have HF9 := hide F9'; have HFT := hide FT'; clear F9' FT'
            go_wp2
            clear p2 p3
            go_loopw [96] (fun i wr => ∃ k : Nat, k ≤ l.length ∧ i = .int .i64 k ∧ (l.take k).all (whOk l) = true ∧ Below w.heap.size w wr ∧ Bk wr w.heap.size 59 #[.int .i64 m0, .int .i64 m1, .slice A2 body.length c2, .slice A3 l.length c3]) (fun i _ => l.length - (intOf i).toNat)
            case atStart => exact ⟨0, by omega, rfl, by simp, Hb4.out, Hk4.out⟩
            case round =>
              obtain ⟨k, hk, rfl, hwh, hb, hbk⟩ := hrel
              have hbs := hb.size
              have hbl7 := hbk.lt
              have p2 := hbk.cell 2; have p3 := hbk.cell 3
              by_cases hlt : k < l.length
              · obtain ⟨b, o, A5, c5, A6, c6, A7, c7, rfl, hbB, d0, d1, d2, d3, d4, x2, x3, x4⟩ := RStmt_lit H3.out hlt
                have e0 := (hb.cell (p := ⟨b, o + k * 5, none⟩) hbB).trans d0
                have e1 := (hb.cell (p := ⟨b, o + k * 5 + 1, none⟩) hbB).trans d1
                have e2 := (hb.cell (p := ⟨b, o + k * 5 + 2, none⟩) hbB).trans d2
                have e3 := (hb.cell (p := ⟨b, o + k * 5 + 3, none⟩) hbB).trans d3
                have e4 := (hb.cell (p := ⟨b, o + k * 5 + 4, none⟩) hbB).trans d4
                have hbw : b < wr.heap.size := by omega
                have hstep := fun h => all_take_step (p := whOk l) hlt hwh h
                have hfail := fun h => all_false (p := whOk l) hlt h
                obtain ⟨hl1, hl2⟩ := (latB_all l 0).1 Hlat.out k hlt
                obtain ⟨hn3, hn4⟩ := Hel.out k hlt
                have huk : l[k].qThen.length ≤ 16 := by
                  have h1 := usesL_step (show 0 < l.length by omega)
                  have h5 : ∀ (q : List StmtM) (i : Nat) (hi : i < q.length), q[i].qThen.length ≤ usesL q := by
                    intro q
                    induction q with
                    | nil => intro i hi; simp at hi
                    | cons s q ih =>
                      intro i hi
                      cases i with
                      | zero => simp only [usesL, List.getElem_cons_zero]; omega
                      | succ i => have := ih i (by simpa using hi); simp only [usesL, List.getElem_cons_succ]; omega
                  have := h5 l k hlt
                  omega
                have hTb := ordI_bound Hlat.out hu16 (lo := ((0 + k : Nat) : Int) + 1) (by omega) hl1 huk
                have hTin : ∀ x ∈ l[k].qThen, 0 ≤ x ∧ x < l.length ∧ l.length ≤ x + (l.length : Nat) := fun x hx => by have := (inAll_iff.1 hl1) x hx; omega
                have hTlt := Hlto.out l[k].qThen (natL_lt hl1 (by omega))
                have Hb := hide hb; have Hbk := hide hbk; have Hstep := hide hstep; have Hfail := hide hfail; have X3 := hide x3; have HTin := hide hTin; have HTlt := hide hTlt
                have Hd0 := hide d0; have Hd3 := hide d3
                clear hb hbk x2 x3 x4 d0 d1 d2 d3 d4 hstep hfail hwh hl1 hl2 hTin hTlt
                generalize l[k] = s at *
                obtain ⟨s0, s1, s2, s3, s4⟩ := s
                dsimp only at *
                have hB := hide (Hb.out.alloc hbs (.cells #[.int .i64 s0, .int .i64 s1, .slice A5 s2.length c5, .slice A6 s3.length c6, .slice A7 s4.length c7] 103))
                have hK := hide (Hbk.out.alloc (.cells #[.int .i64 s0, .int .i64 s1, .slice A5 s2.length c5, .slice A6 s3.length c6, .slice A7 s4.length c7] 103))
                by_cases h8 : s0 = 8
                · subst h8
                  have hwk : whOk l ⟨8, s1, s2, s3, s4⟩ = (ordI l s3).all fun m => decide ((l.getD m.toNat st0).qKind ≠ 3) := rfl
                  obtain ⟨T, hT⟩ : ∃ T, T = ordI l s3 := ⟨_, rfl⟩
                  rw [← hT] at hwk hTb
                  have HTlt' := HTlt.out
                  rw [← hT] at HTlt'
                  have HT := hide hT; have Hwk := hide hwk; have HTl := hide HTlt'
                  clear hT hwk HTlt'
                  go_wp2_with fail
                  have hKs := hK.out.lt
                  have hx3 := hB.out.cell (p := ⟨b, o + k * 5 + 3, none⟩) hbB |>.trans Hd3.out
                  have hOk := impl_orderOf m0 m1 body l Hlat.out g3 l.length s3 [] (.slice A6 s3.length c6) (.slice none 0 0) (World.drew (wr.alloc (.cells #[.int .i64 8, .int .i64 s1, .slice A5 s2.length c5, .slice A6 s3.length c6, .slice A7 s4.length c7] 103))) (wr.alloc (.cells #[.int .i64 8, .int .i64 s1, .slice A5 s2.length c5, .slice A6 s3.length c6, .slice A7 s4.length c7] 103)).heap.size _ (by exact RFunc_stable.here Hr0.out hB.out.drew) (Nat.le_refl _) (by exact X3.out.rd.here hB.out.drew) (World.ownsRow_nil _ _ _ _) HTin.out (by have h1 := hTb; rw [HT.out] at h1; unfold ordI at h1; rw [intL_length] at h1; simp; omega)
                  have HOk := hide hOk; have Hx3 := hide hx3; clear hOk hx3
                  have hkI : (k : Int) < (l.length : Int) := by omega
                  have hk0 : (0 : Int) ≤ (k : Int) := by omega
                  go_region_held3 (fun w' => w'.cell? ⟨w.heap.size, 0, none⟩ = some (.int .i64 m0) ∧ w'.cell? ⟨w.heap.size, 1, none⟩ = some (.int .i64 m1) ∧ w'.cell? ⟨w.heap.size, 2, none⟩ = some (.slice A2 body.length c2) ∧ w'.cell? ⟨w.heap.size, 3, none⟩ = some (.slice (some ⟨b, o, none⟩) l.length c3) ∧ w'.cell? ⟨b, o + k * 5 + 3, none⟩ = some (.slice A6 s3.length c6)) (first | exact ⟨hK.out.cell 0, hK.out.cell 1, hK.out.cell 2, hK.out.cell 3, Hx3.out⟩ | exact ⟨Hk5.out.cell 0, Hk5.out.cell 1, Hk5.out.cell 2, Hk5.out.cell 3, Hx5.out⟩)
                    (first | (go_at_call 92; refine (HOk.out).mono ?_; rintro e w5 ⟨tv, rfl, hown5, hgr5⟩; replace hgr5 := Gro.undrew hgr5; have hown6 : w5.ownsRow (wr.alloc (.cells #[.int .i64 8, .int .i64 s1, .slice A5 s2.length c5, .slice A6 s3.length c6, .slice A7 s4.length c7] 103)).heap.size 3 1 tv (ordI l s3).length (icells .i64 (ordI l s3)) := hown5; rw [← HT.out] at hown6; obtain ⟨At, ct, rfl⟩ := own_form hown6; have hb5 := hgr5.toBelow (World.ownsRow_nil _ (wr.alloc (.cells #[.int .i64 8, .int .i64 s1, .slice A5 s2.length c5, .slice A6 s3.length c6, .slice A7 s4.length c7] 103)).heap.size 3 1) (Nat.le_refl _); have Hk5 := hide (hK.out.below hb5); have HB5 := hide (hB.out.trans (hb5.mono hB.out.size)); have Hx5 := hide ((HB5.out.cell (p := ⟨b, o + k * 5 + 3, none⟩) hbB).trans Hd3.out); have HTr := hide (Rd.of_own hown6); clear hown5 hgr5 hown6 hb5))
                  go_wp2_with fail
                  go_loop [121] (fun j => ∃ q : Nat, q ≤ T.length ∧ j = .int .i64 q ∧ (T.take q).all (fun m => decide ((l.getD m.toNat st0).qKind ≠ 3)) = true) (fun j => T.length - (intOf j).toNat)
                  case atStart => exact ⟨0, by omega, rfl, by simp⟩
                  case round =>
                    obtain ⟨q, hq, rfl, hall⟩ := hrel
                    have p3 := Hk5.out.cell 3
                    by_cases hqt : q < T.length
                    · obtain ⟨b9, o9, e9, hb9, t0⟩ := HTr.out.at_ (j := q) (by rw [icells_length]; exact hqt)
                      cases e9
                      rw [icells_get _ _ hqt] at t0
                      obtain ⟨y, hy, hyl⟩ := HTl.out T[q] (List.getElem_mem hqt)
                      obtain ⟨b6, o6, _, _, _, _, _, _, e6, hb6, y0, _, _, _, _, _, _, _⟩ := RStmt_lit H3.out hyl
                      cases e6
                      have y0' := (HB5.out.cell (p := ⟨b, o + y * 5, none⟩) hbB).trans y0
                      have hp := fun h => all_take_step (p := fun m => decide ((l.getD m.toNat st0).qKind ≠ 3)) hqt hall h
                      have hpf := fun h => all_false (p := fun m => decide ((l.getD m.toNat st0).qKind ≠ 3)) hqt h
                      rw [hy] at t0 hp hpf
                      have hyI : (y : Int) < (l.length : Int) := by omega
                      have hyz : (0 : Int) ≤ (y : Int) := by omega
                      have hgd : l.getD ((y : Int)).toNat st0 = l[y] := by rw [Int.toNat_natCast]; simp [List.getD, List.getElem?_eq_getElem hyl]
                      simp only [hgd] at hp hpf
                      have hbw5 : b < w5.heap.size := by have := HB5.out.size; omega
                      have Hgd := hide hgd
                      clear hall y0 hgd hy
                      generalize l[y] = sy at *
                      by_cases hk3 : sy.qKind = 3
                      · have HF := hide (HF9.out (Hfail.out (by rw [Hwk.out]; exact hpf (by rw [hk3]; rfl))))
                        rw [hk3] at y0'
                        clear hp hpf hk3
                        go_wp2
                        go_ret
                        exact ⟨retB HF.out.symm, HB5.out⟩
                      · have b3 : (sy.qKind == 3) = false := by rw [beq_eq_false_iff_ne]; exact hk3
                        have HP := hide (hp (decide_eq_true hk3))
                        clear hp hpf hk3
                        go_wp2
                        go_round
                        case rel => exact ⟨q + 1, by omega, by go_num, HP.out⟩
                        case measure => simp [intOf]; omega
                    · obtain rfl : q = T.length := by omega
                      rw [List.take_length] at hall
                      have HS := hide (Hstep.out (Hwk.out.trans hall)); clear hall p3
                      go_wp2
                      go_roundw
                      case rel => exact ⟨k + 1, by omega, by go_num, HS.out, HB5.out, Hk5.out⟩
                      case measure => simp [intOf]; omega
                · have b8 : (s0 == 8) = false := by rw [beq_eq_false_iff_ne]; exact h8
                  have HS := hide (Hstep.out (by unfold whOk; rw [if_neg h8]))
                  clear h8
                  go_wp2
                  go_roundw
                  case rel => exact ⟨k + 1, by omega, by go_num, HS.out, hB.out, hK.out⟩
                  case measure => simp [intOf]; omega
              · obtain rfl : k = l.length := by omega
                rw [List.take_length] at hwh
                have HF := hide (HFT.out hwh)
                have Hb := hide hb; clear hb hbk hwh
                go_wp2
                go_ret
                exact ⟨retB (by rw [HF.out]), Hb.out⟩
          · have HF := hide (F8''.out (fun e => hlen (by rw [e, intL_length, List.length_range])))
            have hbl2 : ((ord.length : Int) == (l.length : Int)) = false := by rw [beq_eq_false_iff_ne]; omega
            have hbl4 : (ord.length == l.length) = false := by rw [beq_eq_false_iff_ne]; omega
            have hbl5 : decide (ord.length = l.length) = false := decide_eq_false hlen
            have hbl6 : decide ((ord.length : Int) = (l.length : Int)) = false := decide_eq_false (by omega)
            go_wp2
            clear p2 p3
            go_loopw [96] (fun i wr => ∃ k : Nat, k ≤ l.length ∧ i = .int .i64 k ∧ Below w.heap.size w wr ∧ Bk wr w.heap.size 59 #[.int .i64 m0, .int .i64 m1, .slice A2 body.length c2, .slice A3 l.length c3]) (fun i _ => l.length - (intOf i).toNat)
            case atStart => exact ⟨0, by omega, rfl, Hb4.out, Hk4.out⟩
            case round =>
              obtain ⟨k, hk, rfl, hb, hbk⟩ := hrel
              have hbs := hb.size
              have hbl7 := hbk.lt
              have p2 := hbk.cell 2; have p3 := hbk.cell 3
              by_cases hlt : k < l.length
              · obtain ⟨b, o, A5, c5, A6, c6, A7, c7, rfl, hbB, d0, d1, d2, d3, d4, x2, x3, x4⟩ := RStmt_lit H3.out hlt
                have e0 := (hb.cell (p := ⟨b, o + k * 5, none⟩) hbB).trans d0
                have e1 := (hb.cell (p := ⟨b, o + k * 5 + 1, none⟩) hbB).trans d1
                have e2 := (hb.cell (p := ⟨b, o + k * 5 + 2, none⟩) hbB).trans d2
                have e3 := (hb.cell (p := ⟨b, o + k * 5 + 3, none⟩) hbB).trans d3
                have e4 := (hb.cell (p := ⟨b, o + k * 5 + 4, none⟩) hbB).trans d4
                have hbw : b < wr.heap.size := by omega
                have Hb := hide hb; have Hbk := hide hbk
                clear hb hbk x2 x3 x4 d0 d1 d2 d3 d4
                generalize l[k] = s at *
                obtain ⟨s0, s1, s2, s3, s4⟩ := s
                dsimp only at *
                have hB := hide (Hb.out.alloc hbs (.cells #[.int .i64 s0, .int .i64 s1, .slice A5 s2.length c5, .slice A6 s3.length c6, .slice A7 s4.length c7] 103))
                have hK := hide (Hbk.out.alloc (.cells #[.int .i64 s0, .int .i64 s1, .slice A5 s2.length c5, .slice A6 s3.length c6, .slice A7 s4.length c7] 103))
                by_cases h8 : s0 = 8
                · subst h8
                  go_wp2
                  go_roundw
                  case rel => exact ⟨k + 1, by omega, by go_num, hB.out, hK.out⟩
                  case measure => simp [intOf]; omega
                · have b8 : (s0 == 8) = false := by rw [beq_eq_false_iff_ne]; exact h8
                  clear h8
                  go_wp2
                  go_roundw
                  case rel => exact ⟨k + 1, by omega, by go_num, hB.out, hK.out⟩
                  case measure => simp [intOf]; omega
              · obtain rfl : k = l.length := by omega
                have Hb := hide hb; clear hb hbk
                go_wp2
                go_ret
                exact ⟨retB HF.out.symm, Hb.out⟩
end Go.Proofs.Ytheddnjhkcpmnaa
