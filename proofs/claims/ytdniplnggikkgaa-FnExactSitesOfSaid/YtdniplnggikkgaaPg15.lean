
/- SitesOf, OrderOf on both sides. No condition. -/
import Derived.Test.YtdniplnggikkgaaPg13
import Derived.Test.YtdniplnggikkgaaPg14
set_option linter.unusedSimpArgs false
set_option linter.unusedVariables false
set_option maxRecDepth 100000
namespace Go.Proofs.Ytdniplnggikkgaa
open Go.RowKit

theorem alone_sh {f : FuncM} (h : aloneB f = true) : shapedB f = true := by
  unfold aloneB at h
  rw [List.any_eq_true] at h
  obtain ⟨n, _, h⟩ := h
  rw [func_eq, Bool.and_eq_true] at h
  exact h.1
def sitR (f : FuncM) : List Int := if aloneB f then sitesF 0 f.qStmts else []
def ordR (f : FuncM) : List Int := if aloneB f then ordI f.qStmts f.qBody else []
theorem sitR_length (f : FuncM) : (sitR f).length ≤ 1048576 := by
  unfold sitR; split
  · next h => have := (shaped_vars (alone_sh h)).2.2; have := sitesF_length f.qStmts 0; omega
  · simp
/-- what the walk of the order wants -/
theorem shaped_ord {f : FuncM} (h : shapedB f = true) : latB f.qStmts.length 0 f.qStmts = true ∧ f.qStmts.length ≤ 16 ∧ (∀ x ∈ f.qBody, 0 ≤ x ∧ x < f.qStmts.length ∧ f.qStmts.length ≤ x + (f.qStmts.length : Nat)) ∧ ordI f.qStmts f.qBody = intL (List.range f.qStmts.length) := by
  unfold shapedB at h
  simp only [Bool.and_eq_true, decide_eq_true_eq] at h
  obtain ⟨⟨-, -, h16, -⟩, hlat, -, hin, ho, -⟩ := h
  exact ⟨hlat, h16, fun x hx => by have := (inAll_iff.1 hin) x hx; omega, ho⟩
theorem ordR_length (f : FuncM) : (ordR f).length ≤ 1048576 := by
  unfold ordR; split
  · next h => obtain ⟨_, h16, _, ho⟩ := shaped_ord (alone_sh h); rw [ho, intL_length, List.length_range]; omega
  · simp
set_option maxHeartbeats 1600000 in
theorem spec_call_SitesOf (cs : List Value) (m : FuncM) (w : World) (hr : RFunc w 0 w.heap.size cs m) (hz : szFuncN m ≤ 1048576) :
    Calls Try.prog 25 #[.agg cs.toArray] w fun e w' => ∃ v, e = .returned (.tuple #[v, .bool (aloneB m)]) ∧ w'.ownsRow w.heap.size 3 1 v (sitR m).length (icells .i64 (sitR m)) ∧ Below w.heap.size w w' := by
  have hr0 := hr
  obtain ⟨v2, v3, rfl, h2, h3⟩ := hr
  have hb := (Below.refl w.heap.size w).alloc (Nat.le_refl _) (.cells #[.int .i64 m.qParams, .int .i64 m.qVars, v2, v3] 42)
  have hk := Bk.new w 42 #[.int .i64 m.qParams, .int .i64 m.qVars, v2, v3]
  have hG := spec_l3Alone _ m _ (RFunc_stable.here hr0 hb) hz
  have hR : aloneB m = true → sitR m = sitesF 0 m.qStmts := fun h => by unfold sitR; rw [h]; rfl
  have hR' : aloneB m = false → sitR m = [] := fun h => by unfold sitR; rw [h]; rfl
  have Hb := hide hb; have Hk := hide hk
  cases hg : aloneB m
  · rw [hg] at hG
    have e := hR' hg
    generalize sitR m = L at *
    subst e
    have HG := hide hG; clear hG hg hR hR' hb hk h2 h3 hr0
    go_enter Try.func25, Try.ntmps25
    go_wp2_with (go_at_call 51; refine (HG.out).mono ?_; rintro e w1 ⟨rfl, hb1⟩)
    go_ret2
    exact ⟨_, rfl, World.ownsRow_nil _ _ _ _, Hb.out.trans (hb1.mono Hb.out.size)⟩
  · have hP := fun W (hW : Below w.heap.size w W) => spec_l3Sites _ m W (RFunc_stable.here hr0 hW) (shaped_ord (alone_sh hg)).2.1
    rw [hg] at hG
    have e := hR hg
    generalize sitesF 0 m.qStmts = L2 at *
    generalize sitR m = L at *
    subst e
    have HG := hide hG; have HP := Lib.hid hP; clear hG hg hR hR' hP hb hk h2 h3 hr0
    go_enter Try.func25, Try.ntmps25
    go_wp2_with (first
      | (go_at_call 51; refine (HG.out).mono ?_; rintro e w1 ⟨rfl, hb1⟩; have Hb1 := hide (Hb.out.trans (hb1.mono Hb.out.size)); have hk1 := Hk.out.below hb1; have hkl := hk1.lt; have q0 := hk1.cell 0; have q1 := hk1.cell 1; have q2 := hk1.cell 2; have q3 := hk1.cell 3; have HC := hide (HP.out _ Hb1.out); clear hb1 hk1)
      | (go_at_call 45; refine (HC.out).mono ?_; rintro e w2 ⟨v, rfl, hown, hb2⟩))
    go_ret2
    exact ⟨_, rfl, own_base hown Hb1.out.size, Hb1.out.trans (hb2.mono Hb1.out.size)⟩
set_option maxHeartbeats 1600000 in
theorem impl_call_SitesOf (cs : List Value) (m : FuncM) (w : World) (hr : RFunc w 0 w.heap.size cs m) (hz : szFuncN m ≤ 1048576) :
    Calls Try.prog 26 #[.agg cs.toArray] w fun e w' => ∃ v, e = .returned (.tuple #[v, .bool (aloneB m)]) ∧ w'.ownsRow w.heap.size 3 1 v (sitR m).length (icells .i64 (sitR m)) ∧ Below w.heap.size w w' := by
  have hr0 := hr
  obtain ⟨v2, v3, rfl, h2, h3⟩ := hr
  have hb := (Below.refl w.heap.size w).alloc (Nat.le_refl _) (.cells #[.int .i64 m.qParams, .int .i64 m.qVars, v2, v3] 42)
  have hk := Bk.new w 42 #[.int .i64 m.qParams, .int .i64 m.qVars, v2, v3]
  have hG := impl_isLoneFunc _ m _ (RFunc_stable.here hr0 hb) hz
  have hR : aloneB m = true → sitR m = sitesF 0 m.qStmts := fun h => by unfold sitR; rw [h]; rfl
  have hR' : aloneB m = false → sitR m = [] := fun h => by unfold sitR; rw [h]; rfl
  have Hb := hide hb; have Hk := hide hk
  cases hg : aloneB m
  · rw [hg] at hG
    have e := hR' hg
    generalize sitR m = L at *
    subst e
    have HG := hide hG; clear hG hg hR hR' hb hk h2 h3 hr0
    go_enter Try.func26, Try.ntmps26
    go_wp2_with (go_at_call 55; refine (HG.out).mono ?_; rintro e w1 ⟨rfl, hb1⟩)
    go_ret2
    exact ⟨_, rfl, World.ownsRow_nil _ _ _ _, Hb.out.trans (hb1.mono Hb.out.size)⟩
  · have hP := fun W (hW : Below w.heap.size w W) => impl_sitesOf _ m W (RFunc_stable.here hr0 hW) (shaped_ord (alone_sh hg)).2.1
    rw [hg] at hG
    have e := hR hg
    generalize sitesF 0 m.qStmts = L2 at *
    generalize sitR m = L at *
    subst e
    have HG := hide hG; have HP := Lib.hid hP; clear hG hg hR hR' hP hb hk h2 h3 hr0
    go_enter Try.func26, Try.ntmps26
    go_wp2_with (first
      | (go_at_call 55; refine (HG.out).mono ?_; rintro e w1 ⟨rfl, hb1⟩; have Hb1 := hide (Hb.out.trans (hb1.mono Hb.out.size)); have hk1 := Hk.out.below hb1; have hkl := hk1.lt; have q0 := hk1.cell 0; have q1 := hk1.cell 1; have q2 := hk1.cell 2; have q3 := hk1.cell 3; have HC := hide (HP.out _ Hb1.out); clear hb1 hk1)
      | (go_at_call 59; refine (HC.out).mono ?_; rintro e w2 ⟨v, rfl, hown, hb2⟩))
    go_ret2
    exact ⟨_, rfl, own_base hown Hb1.out.size, Hb1.out.trans (hb2.mono Hb1.out.size)⟩
set_option maxHeartbeats 1600000 in
theorem spec_call_OrderOf (cs : List Value) (m : FuncM) (w : World) (hr : RFunc w 0 w.heap.size cs m) (hz : szFuncN m ≤ 1048576) :
    Calls Try.prog 17 #[.agg cs.toArray] w fun e w' => ∃ v, e = .returned (.tuple #[v, .bool (aloneB m)]) ∧ w'.ownsRow w.heap.size 3 1 v (ordR m).length (icells .i64 (ordR m)) ∧ Below w.heap.size w w' := by
  have hr0 := hr
  obtain ⟨v2, v3, rfl, h2, h3⟩ := hr
  have hb := (Below.refl w.heap.size w).alloc (Nat.le_refl _) (.cells #[.int .i64 m.qParams, .int .i64 m.qVars, v2, v3] 42)
  have hk := Bk.new w 42 #[.int .i64 m.qParams, .int .i64 m.qVars, v2, v3]
  have hG := spec_l3Alone _ m _ (RFunc_stable.here hr0 hb) hz
  have hR : aloneB m = true → ordR m = ordI m.qStmts m.qBody := fun h => by unfold ordR; rw [h]; rfl
  have hR' : aloneB m = false → ordR m = [] := fun h => by unfold ordR; rw [h]; rfl
  have Hb := hide hb; have Hk := hide hk
  cases hg : aloneB m
  · rw [hg] at hG
    have e := hR' hg
    generalize ordR m = L at *
    subst e
    have HG := hide hG; clear hG hg hR hR' hb hk h2 h3 hr0
    go_enter Try.func17, Try.ntmps17
    go_wp2_with (go_at_call 51; refine (HG.out).mono ?_; rintro e w1 ⟨rfl, hb1⟩)
    go_ret2
    exact ⟨_, rfl, World.ownsRow_nil _ _ _ _, Hb.out.trans (hb1.mono Hb.out.size)⟩
  · obtain ⟨hlat, h16, hbin, ho⟩ := shaped_ord (alone_sh hg)
    have hlen : (ordI m.qStmts m.qBody).length ≤ 16 := by rw [ho, intL_length, List.length_range]; exact h16
    have hlen2 : (ordN (kidsOf m.qStmts) m.qStmts.length (natL m.qBody)).length ≤ 2000000 := by have h := hlen; unfold ordI at h; rw [intL_length] at h; omega
    have hP : ∀ W (hW : Below w.heap.size w W), Calls Try.prog 52 #[.agg #[.int .i64 m.qParams, .int .i64 m.qVars, v2, v3], v2] W fun e w' => ∃ v', e = .returned v' ∧ w'.ownsRow W.heap.size 3 1 v' (ordI m.qStmts m.qBody).length (icells .i64 (ordI m.qStmts m.qBody)) ∧ Below W.heap.size W w' := fun W hW =>
      spec_l3Order m.qParams m.qVars m.qBody m.qStmts hlat h16 m.qStmts.length m.qBody v2 W _ (RFunc_stable.here hr0 hW) (h2.rd.here hW) hbin hlen2
    rw [hg] at hG
    have e := hR hg
    generalize ordI m.qStmts m.qBody = L2 at *
    generalize ordR m = L at *
    subst e
    have HG := hide hG; have HP := Lib.hid hP; clear hG hg hR hR' hP hb hk h2 h3 hr0 hbin hlat ho
    go_enter Try.func17, Try.ntmps17
    go_wp2_with (first
      | (go_at_call 51; refine (HG.out).mono ?_; rintro e w1 ⟨rfl, hb1⟩; have Hb1 := hide (Hb.out.trans (hb1.mono Hb.out.size)); have hk1 := Hk.out.below hb1; have hkl := hk1.lt; have q0 := hk1.cell 0; have q1 := hk1.cell 1; have q2 := hk1.cell 2; have q3 := hk1.cell 3; have HC := hide (HP.out _ Hb1.out); clear hb1 hk1)
      | (go_at_call 52; refine (HC.out).mono ?_; rintro e w2 ⟨v, rfl, hown, hb2⟩))
    go_ret2
    exact ⟨_, rfl, own_base hown Hb1.out.size, Hb1.out.trans (hb2.mono Hb1.out.size)⟩
set_option maxHeartbeats 1600000 in
theorem impl_call_OrderOf (cs : List Value) (m : FuncM) (w : World) (hr : RFunc w 0 w.heap.size cs m) (hz : szFuncN m ≤ 1048576) :
    Calls Try.prog 19 #[.agg cs.toArray] w fun e w' => ∃ v, e = .returned (.tuple #[v, .bool (aloneB m)]) ∧ w'.ownsRow w.heap.size 3 1 v (ordR m).length (icells .i64 (ordR m)) ∧ Below w.heap.size w w' := by
  have hr0 := hr
  obtain ⟨v2, v3, rfl, h2, h3⟩ := hr
  have hb := (Below.refl w.heap.size w).alloc (Nat.le_refl _) (.cells #[.int .i64 m.qParams, .int .i64 m.qVars, v2, v3] 42)
  have hk := Bk.new w 42 #[.int .i64 m.qParams, .int .i64 m.qVars, v2, v3]
  have hG := impl_isLoneFunc _ m _ (RFunc_stable.here hr0 hb) hz
  have hR : aloneB m = true → ordR m = ordI m.qStmts m.qBody := fun h => by unfold ordR; rw [h]; rfl
  have hR' : aloneB m = false → ordR m = [] := fun h => by unfold ordR; rw [h]; rfl
  have Hb := hide hb; have Hk := hide hk
  cases hg : aloneB m
  · rw [hg] at hG
    have e := hR' hg
    generalize ordR m = L at *
    subst e
    have HG := hide hG; clear hG hg hR hR' hb hk h2 h3 hr0
    go_enter Try.func19, Try.ntmps19
    go_wp2_with (go_at_call 55; refine (HG.out).mono ?_; rintro e w1 ⟨rfl, hb1⟩)
    go_ret2
    exact ⟨_, rfl, World.ownsRow_nil _ _ _ _, Hb.out.trans (hb1.mono Hb.out.size)⟩
  · obtain ⟨hlat, h16, hbin, ho⟩ := shaped_ord (alone_sh hg)
    have hlen : (ordI m.qStmts m.qBody).length ≤ 16 := by rw [ho, intL_length, List.length_range]; exact h16
    have hlen2 : (ordN (kidsOf m.qStmts) m.qStmts.length (natL m.qBody)).length ≤ 2000000 := by have h := hlen; unfold ordI at h; rw [intL_length] at h; omega
    have hP : ∀ W (hW : Below w.heap.size w W), Calls Try.prog 56 #[.agg #[.int .i64 m.qParams, .int .i64 m.qVars, v2, v3], v2, .slice none 0 0] W fun e w' => ∃ v', e = .returned v' ∧ w'.ownsRow W.heap.size 3 1 v' (ordI m.qStmts m.qBody).length (icells .i64 (ordI m.qStmts m.qBody)) ∧ Below W.heap.size W w' := fun W hW => by
      refine (impl_orderOf m.qParams m.qVars m.qBody m.qStmts hlat h16 m.qStmts.length m.qBody [] v2 (.slice none 0 0) W W.heap.size _ (RFunc_stable.here hr0 hW) (Nat.le_refl _) (h2.rd.here hW) (World.ownsRow_nil _ _ _ _) hbin (by simp only [List.length_nil, Nat.zero_add]; exact hlen2)).mono ?_
      rintro e w' ⟨v', rfl, ho', hg'⟩
      exact ⟨v', rfl, ho', hg'.toBelow (World.ownsRow_nil _ W.heap.size 3 1) (Nat.le_refl _)⟩
    rw [hg] at hG
    have e := hR hg
    generalize ordI m.qStmts m.qBody = L2 at *
    generalize ordR m = L at *
    subst e
    have HG := hide hG; have HP := Lib.hid hP; clear hG hg hR hR' hP hb hk h2 h3 hr0 hbin hlat ho
    go_enter Try.func19, Try.ntmps19
    go_wp2_with (first
      | (go_at_call 55; refine (HG.out).mono ?_; rintro e w1 ⟨rfl, hb1⟩; have Hb1 := hide (Hb.out.trans (hb1.mono Hb.out.size)); have hk1 := Hk.out.below hb1; have hkl := hk1.lt; have q0 := hk1.cell 0; have q1 := hk1.cell 1; have q2 := hk1.cell 2; have q3 := hk1.cell 3; have HC := hide (HP.out _ Hb1.out); clear hb1 hk1)
      | (go_at_call 56; refine (HC.out).mono ?_; rintro e w2 ⟨v, rfl, hown, hb2⟩))
    go_ret2
    exact ⟨_, rfl, own_base hown Hb1.out.size, Hb1.out.trans (hb2.mono Hb1.out.size)⟩
end Go.Proofs.Ytdniplnggikkgaa
