
/- HeightsOf on both sides. No condition. -/
import Derived.Test.YtaebmliolpgmdaaGreatGc8
set_option linter.unusedSimpArgs false
set_option linter.unusedVariables false
set_option maxRecDepth 100000
namespace Go.Proofs.YtaebmliolpgmdaaGreat
open Go.RowKit

/-- there are heights -/
noncomputable def hoOk (l : List CodeM) (fn : Int) : Bool := gcOk l fn && decide (gcR l fn = 0)
noncomputable def hoR (l : List CodeM) (fn : Int) : List Int := if hoOk l fn then ((waysOf l (l.getD fn.toNat c0)).heights).getD [] else []
theorem hoOk_no {l : List CodeM} {fn : Int} (h : gcOk l fn = false) : hoOk l fn = false := by unfold hoOk; rw [h]; rfl
theorem hoOk_bad {l : List CodeM} {fn : Int} (h : gcR l fn ≠ 0) : hoOk l fn = false := by unfold hoOk; rw [decide_eq_false h]; simp
theorem hoOk_yes {l : List CodeM} {fn : Int} (h : gcOk l fn = true) (h2 : gcR l fn = 0) : hoOk l fn = true := by unfold hoOk; rw [h, decide_eq_true h2]; rfl
theorem hoR_no {l : List CodeM} {fn : Int} (h : hoOk l fn = false) : hoR l fn = [] := by unfold hoR; rw [h]; rfl
theorem hoR_yes {l : List CodeM} {n : Nat} {hs : List Int} (h : hoOk l n = true) (hn : n < l.length) (hi : HInv (waysOf l l[n]) hs []) : hoR l n = hs := by
  unfold hoR; rw [h, Int.toNat_natCast]
  have e : l.getD n c0 = l[n] := by simp [List.getD, List.getElem?_eq_getElem hn]
  rw [e, Ways.heights_some hi]; rfl
theorem hoR_length (l : List CodeM) (fn : Int) : (hoR l fn).length ≤ 1048576 := by
  by_cases h : hoOk l fn = true
  · have hg : gcOk l fn = true := by unfold hoOk at h; simp at h; exact h.1
    unfold gcOk at hg
    rw [Bool.and_eq_true] at hg
    obtain ⟨n, rfl, hn⟩ := in_nat hg.2
    have e : l.getD n c0 = l[n] := by simp [List.getD, List.getElem?_eq_getElem hn]
    unfold hoR
    rw [h, Int.toNat_natCast, e]
    rw [if_pos rfl]
    unfold Ways.heights
    split
    · next hex =>
      have h1 : hex.choose.length = (waysOf l l[n]).N := hex.choose_spec.1
      have h3 := (codeOk_iff.1 ((sizedB_iff.1 hg.1).2 _ (List.getElem_mem hn))).2.2.2.1.2
      have : (waysOf l l[n]).N = l[n].qIns.length := rfl
      simp only [Option.getD_some]
      omega
    · simp
  · rw [hoR_no (by simpa using h)]; simp
theorem impl_checkCode_good (xs : List Value) (x : ImageM) (fn : Nat) (w : World) (L : List Int) (hx : RImage w 0 w.heap.size xs x) (hfn : fn < x.qCodes.length) (hsz : sizedB x.qCodes = true) (hK : codeN x.qCodes x.qCodes[fn] = 0) (hL : ∀ hs, HInv (waysOf x.qCodes x.qCodes[fn]) hs [] → L = hs) :
    Calls Tryz.prog 25 #[.agg xs.toArray, .int .i64 fn] w fun e w' => ∃ v, e = .returned (.tuple #[v, .int .i64 0]) ∧ w'.ownsRow w.heap.size 3 1 v L.length (icells .i64 L) ∧ Below w.heap.size w w' := by
  refine (impl_checkCode xs x fn w hx hfn hsz).mono ?_
  rintro e w' ⟨v, hs, rfl, ho, hi, _, hb⟩
  rw [hL hs (hi hK), hK]
  rw [← hL hs (hi hK)]
  exact ⟨v, rfl, by rw [hL hs (hi hK)]; exact ho, hb⟩
set_option maxHeartbeats 3200000 in
theorem impl_call_HeightsOf (xs : List Value) (x : ImageM) (fn : Int) (w : World) (hx : RImage w 0 w.heap.size xs x) (hz : szImageN x ≤ 1048576) :
    Calls Tryz.prog 8 #[.agg xs.toArray, .int .i64 fn] w fun e w' => ∃ v, e = .returned (.tuple #[v, .bool (hoOk x.qCodes fn)]) ∧ w'.ownsRow w.heap.size 3 1 v (hoR x.qCodes fn).length (icells .i64 (hoR x.qCodes fn)) ∧ Below w.heap.size w w' := by
  have hx0 := hx
  obtain ⟨v0, rfl, h0⟩ := hx
  have hl := h0.long
  obtain ⟨A, c, rfl⟩ := h0.form
  have hb := (Below.refl w.heap.size w).alloc (Nat.le_refl _) (.cells #[.slice A x.qCodes.length c] 31)
  have hk := Bk.new w 31 #[.slice A x.qCodes.length c]
  have hS := impl_isSized _ x _ (RImage_stable.here hx0 hb)
  have hw := fun w => impl_within fn 0 (x.qCodes.length - 1) w
  have Hb := hide hb; have Hk := hide hk
  clear hb hk h0
  cases hs : sizedB x.qCodes
  · have h1 := hoOk_no (gcOk_s (fn := fn) hs)
    rw [hoR_no h1, h1]
    rw [hs] at hS
    have HS := hide hS; clear hS hs h1 hw hx0
    go_enter Tryz.func8, Tryz.ntmps8
    go_wp2_with (go_at_call 23; refine (HS.out).mono ?_; rintro e w1 ⟨rfl, hb1⟩)
    go_ret2
    exact ⟨_, rfl, World.ownsRow_nil _ _ _ _, Hb.out.trans (hb1.mono Hb.out.size)⟩
  rw [hs] at hS
  have HS := hide hS; clear hS
  cases hi : inB fn 0 (x.qCodes.length - 1)
  · have h1 := hoOk_no (gcOk_i hi)
    rw [hoR_no h1, h1]
    simp only [hi] at hw
    have HW := Lib.hid hw; clear hs h1 hw hi hx0
    go_enter Tryz.func8, Tryz.ntmps8
    go_wp2_with (first
      | (go_at_call 23; refine (HS.out).mono ?_; rintro e w1 ⟨rfl, hb1⟩; have q0 := (Hk.out.below hb1).cell 0)
      | (go_at_call 24; refine (HW.out _).mono ?_; rintro e w2 ⟨rfl, rfl⟩))
    go_ret2
    exact ⟨_, rfl, World.ownsRow_nil _ _ _ _, Hb.out.trans (hb1.mono Hb.out.size)⟩
  have h1 := gcOk_y hs hi
  obtain ⟨n, rfl, hn⟩ := in_nat hi
  simp only [hi] at hw
  have hgr := gcR_yes h1 hn
  have hC := fun W (hW : Below w.heap.size w W) => impl_checkCode _ x n W (RImage_stable.here hx0 hW) hn hs
  have HW := Lib.hid hw
  by_cases hK : codeN x.qCodes x.qCodes[n] = 0
  · have h2 := hoOk_yes h1 (hgr.trans hK)
    have hR := fun hs hi => hoR_yes (hs := hs) h2 hn hi
    rw [h2]
    clear hC
    have hC := fun W (hW : Below w.heap.size w W) => impl_checkCode_good _ x n W _ (RImage_stable.here hx0 hW) hn hs hK hR
    have HC := Lib.hid hC
    clear hw hC hs hi h1 hx0 hgr h2 hR hK
    generalize hoR x.qCodes n = L at *
    go_enter Tryz.func8, Tryz.ntmps8
    go_wp2_with (first
      | (go_at_call 23; refine (HS.out).mono ?_; rintro e w1 ⟨rfl, hb1⟩; have Hb1 := hide (Hb.out.trans (hb1.mono Hb.out.size)); have q0 := (Hk.out.below hb1).cell 0; clear hb1)
      | (go_at_call 24; refine (HW.out _).mono ?_; rintro e w2 ⟨rfl, rfl⟩)
      | (go_at_call 25; refine (HC.out _ Hb1.out).mono ?_; rintro e w3 ⟨v, rfl, hown, hb3⟩; have Hown := hide hown; have Hb3 := hide (Hb1.out.trans (hb3.mono Hb1.out.size)); clear hown hb3))
    go_ret2
    exact ⟨_, rfl, own_base Hown.out Hb1.out.size, Hb3.out⟩
  · have h2 := hoOk_bad (l := x.qCodes) (fn := n) (by rw [hgr]; exact hK)
    rw [hoR_no h2, h2]
    have hKb : (codeN x.qCodes x.qCodes[n] != 0) = true := by rw [bne_iff_ne]; exact hK
    generalize codeN x.qCodes x.qCodes[n] = K at *
    have HC := Lib.hid hC
    clear hw hC hs hi h1 hx0 hgr h2 hK
    go_enter Tryz.func8, Tryz.ntmps8
    go_wp2_with (first
      | (go_at_call 23; refine (HS.out).mono ?_; rintro e w1 ⟨rfl, hb1⟩; have Hb1 := hide (Hb.out.trans (hb1.mono Hb.out.size)); have q0 := (Hk.out.below hb1).cell 0; clear hb1)
      | (go_at_call 24; refine (HW.out _).mono ?_; rintro e w2 ⟨rfl, rfl⟩)
      | (go_at_call 25; refine (HC.out _ Hb1.out).mono ?_; rintro e w3 ⟨v, hs, rfl, -, -, -, hb3⟩; have Hb3 := hide (Hb1.out.trans (hb3.mono Hb1.out.size)); clear hb3))
    go_ret2
    exact ⟨_, rfl, World.ownsRow_nil _ _ _ _, Hb3.out⟩
theorem codeN_zero {l : List CodeM} {c : CodeM} (hs : sizedB l = true) (hc : c ∈ l) (h : codeN l c = 0) : Fit l c ∧ ¬ (waysOf l c).bad := by
  cases h1 : c.qIns.all (namedI l.length c)
  · rw [codeN_1 h1] at h; omega
  cases h2 : c.qSites.all (siteI l)
  · rw [codeN_2 h1 h2] at h; omega
  cases h3 : goesL c.qIns.length 0 c.qIns
  · rw [codeN_3 h1 h2 h3] at h; omega
  cases h4 : rowsOk c.qIns.length 0 c.qRows
  · rw [codeN_4 h1 h2 h3 h4] at h; omega
  refine ⟨fit_of hs hc h1 h3 h4, fun h5 => ?_⟩
  rw [codeN_5 h1 h2 h3 h4 h5] at h; omega
theorem spec_l5Heights_good (xs cs : List Value) (x : ImageM) (m : CodeM) (w : World) (L : List Int) (hx : RImage w 0 w.heap.size xs x) (hc : RCode w 0 w.heap.size cs m) (hF : Fit x.qCodes m) (hg : ¬ (waysOf x.qCodes m).bad) (hL : ∀ hs, HInv (waysOf x.qCodes m) hs [] → L = hs) :
    Calls Tryz.prog 21 #[.agg xs.toArray, .agg cs.toArray] w fun e w' => ∃ v, e = .returned (.tuple #[v, .bool true]) ∧ w'.ownsRow w.heap.size 3 1 v L.length (icells .i64 L) ∧ Below w.heap.size w w' := by
  refine (spec_l5Heights xs cs x m w hx hc hF).mono ?_
  rintro e w' ⟨v, b, hs, rfl, ho, h | h, hb⟩
  · obtain ⟨rfl, hi⟩ := h
    rw [hL hs hi]
    exact ⟨v, rfl, ho, hb⟩
  · exact absurd h.2.1 hg
set_option maxHeartbeats 3200000 in
theorem spec_call_HeightsOf (xs : List Value) (x : ImageM) (fn : Int) (w : World) (hx : RImage w 0 w.heap.size xs x) (hz : szImageN x ≤ 1048576) :
    Calls Tryz.prog 6 #[.agg xs.toArray, .int .i64 fn] w fun e w' => ∃ v, e = .returned (.tuple #[v, .bool (hoOk x.qCodes fn)]) ∧ w'.ownsRow w.heap.size 3 1 v (hoR x.qCodes fn).length (icells .i64 (hoR x.qCodes fn)) ∧ Below w.heap.size w w' := by
  have hx0 := hx
  obtain ⟨v0, rfl, h0⟩ := hx
  have hl := h0.long
  obtain ⟨A, c, rfl⟩ := h0.form
  have hb := (Below.refl w.heap.size w).alloc (Nat.le_refl _) (.cells #[.slice A x.qCodes.length c] 31)
  have hk := Bk.new w 31 #[.slice A x.qCodes.length c]
  have hS := spec_GoodCode _ x fn _ (RImage_stable.here hx0 hb)
  have Hb := hide hb; have Hk := hide hk
  clear hb hk
  cases hO : gcOk x.qCodes fn
  · have h1 := hoOk_no hO
    rw [hoR_no h1, h1]
    rw [hO] at hS
    generalize gcR x.qCodes fn = K at *
    have HS := hide hS; clear hS hO h1 hx0 h0
    go_enter Tryz.func6, Tryz.ntmps6
    go_wp2_with (go_at_call 20; refine (HS.out).mono ?_; rintro e w1 ⟨rfl, hb1⟩)
    go_ret2
    exact ⟨_, rfl, World.ownsRow_nil _ _ _ _, Hb.out.trans (hb1.mono Hb.out.size)⟩
  have hO0 := hO
  unfold gcOk at hO0
  rw [Bool.and_eq_true] at hO0
  obtain ⟨hs, hi⟩ := hO0
  obtain ⟨n, rfl, hn⟩ := in_nat hi
  have hgr := gcR_yes hO hn
  by_cases hK : codeN x.qCodes x.qCodes[n] = 0
  · have h2 := hoOk_yes hO (hgr.trans hK)
    have hR := fun hs hi => hoR_yes (hs := hs) h2 hn hi
    rw [h2]
    rw [hO, hgr, hK] at hS
    have HS := hide hS; clear hS
    obtain ⟨hF, hg⟩ := codeN_zero hs (List.getElem_mem hn) hK
    obtain ⟨b, o, v2, v3, v4, e9, hbB, d0, d1, d2, d3, d4, hc⟩ := RCode_at h0 hn
    have hC := fun W (hW : Below w.heap.size w W) => spec_l5Heights_good _ _ x x.qCodes[n] W _ (RImage_stable.here hx0 hW) (RCode_stable.here hc hW) hF hg hR
    subst e9
    clear hF hg hR h2 hgr hK hO hs hi
    generalize hoR x.qCodes n = L at *
    generalize x.qCodes[n].qParams = p0 at *
    generalize x.qCodes[n].qVars = p1 at *
    have hE := fun W (hW : Below w.heap.size w W) => (⟨(hW.cell (p := ⟨b, o + n * 5, none⟩) hbB).trans d0, (hW.cell (p := ⟨b, o + n * 5 + 1, none⟩) hbB).trans d1, (hW.cell (p := ⟨b, o + n * 5 + 2, none⟩) hbB).trans d2, (hW.cell (p := ⟨b, o + n * 5 + 3, none⟩) hbB).trans d3, (hW.cell (p := ⟨b, o + n * 5 + 4, none⟩) hbB).trans d4⟩ : W.cell? ⟨b, o + n * 5, none⟩ = some (.int .i64 p0) ∧ W.cell? ⟨b, o + n * 5 + 1, none⟩ = some (.int .i64 p1) ∧ W.cell? ⟨b, o + n * 5 + 2, none⟩ = some v2 ∧ W.cell? ⟨b, o + n * 5 + 3, none⟩ = some v3 ∧ W.cell? ⟨b, o + n * 5 + 4, none⟩ = some v4)
    have HC := Lib.hid hC; have HE := Lib.hid hE
    have hnI : (n : Int) < (x.qCodes.length : Int) := by omega
    have hn0 : (0 : Int) ≤ (n : Int) := by omega
    clear hC hx0 h0 d0 d1 d2 d3 d4 hc hE
    go_enter Tryz.func6, Tryz.ntmps6
    go_wp2_with (go_at_call 20; refine (HS.out).mono ?_; rintro e w1 ⟨rfl, hb1⟩; have Hb1 := hide (Hb.out.trans (hb1.mono Hb.out.size)); have hk1 := Hk.out.below hb1; have q0 := hk1.cell 0; have Hk1 := hide hk1; clear hb1 hk1)
    go_region_held3 (fun w' => w'.cell? ⟨w.heap.size, 0, none⟩ = some (.slice (some ⟨b, o, none⟩) x.qCodes.length c) ∧ w'.cell? ⟨b, o + n * 5, none⟩ = some (.int .i64 p0) ∧ w'.cell? ⟨b, o + n * 5 + 1, none⟩ = some (.int .i64 p1) ∧ w'.cell? ⟨b, o + n * 5 + 2, none⟩ = some v2 ∧ w'.cell? ⟨b, o + n * 5 + 3, none⟩ = some v3 ∧ w'.cell? ⟨b, o + n * 5 + 4, none⟩ = some v4) (first | exact ⟨Hk1.out.cell 0, HE.out _ Hb1.out⟩ | exact ⟨Hk1.out.cell 0, HE.out _ Hb1.out.drew⟩ | exact ⟨Hk3.out.cell 0, HE.out _ Hb3.out⟩)
      ((go_at_call 21; refine (HC.out _ (by exact Hb1.out.drew)).mono ?_; rintro e w3 ⟨v, rfl, hown, hb3⟩; replace hb3 := below_undrewG hb3; have Hown := hide hown; have Hb3 := hide (Hb1.out.trans (hb3.mono Hb1.out.size)); have Hk3 := hide (Hk1.out.below hb3); clear hb3 hown))
    go_wp2
    go_ret2
    exact ⟨_, rfl, own_base Hown.out Hb1.out.size, Hb3.out⟩
  · have h2 := hoOk_bad (l := x.qCodes) (fn := n) (by rw [hgr]; exact hK)
    rw [hoR_no h2, h2]
    have hge := codeN_ge x.qCodes x.qCodes[n]
    have hKp : 0 < codeN x.qCodes x.qCodes[n] := by omega
    rw [hO, hgr] at hS
    generalize codeN x.qCodes x.qCodes[n] = K at *
    have HS := hide hS; clear hS hO h2 hx0 h0 hs hi hgr hge hK
    go_enter Tryz.func6, Tryz.ntmps6
    go_wp2_with (go_at_call 20; refine (HS.out).mono ?_; rintro e w1 ⟨rfl, hb1⟩)
    go_ret2
    exact ⟨_, rfl, World.ownsRow_nil _ _ _ _, Hb.out.trans (hb1.mono Hb.out.size)⟩
end Go.Proofs.YtaebmliolpgmdaaGreat
