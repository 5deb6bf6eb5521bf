
/- SiteOf on both sides. No condition. -/
import Derived.Test.YtdniplnggikkgaaPg11
set_option linter.unusedSimpArgs false
set_option linter.unusedVariables false
set_option maxRecDepth 100000
namespace Go.Proofs.Ytdniplnggikkgaa
open Go.RowKit

theorem retI1 {a b : Int} (h : a = b) : Ending.returned (.int .i64 a) = .returned (.int .i64 b) := by rw [h]
/-- where s first stands -/
def idxL (s : Int) : Nat → List Int → Int
  | _, [] => -1
  | k, x :: l => if x = s then (k : Int) else idxL s (k + 1) l
theorem idx_yes {s : Int} {l : List Int} {k : Nat} (hk : k < l.length) (h : l[k] = s) : idxL s k (l.drop k) = (k : Int) := by
  rw [List.drop_eq_getElem_cons hk]; simp only [idxL]; rw [if_pos h]
theorem idx_no {s : Int} {l : List Int} {k : Nat} (hk : k < l.length) (h : l[k] ≠ s) : idxL s k (l.drop k) = idxL s (k + 1) (l.drop (k + 1)) := by
  rw [List.drop_eq_getElem_cons hk]; simp only [idxL]; rw [if_neg h]
theorem ix_Index (v : Value) (l : List Int) (s : Int) (w : World) (B : Nat) (hr : Rd w B v l.length (icells .i64 l)) :
    Calls Try.prog 65 #[v, .int .i64 s] w fun e w' => e = .returned (.int .i64 (idxL s 0 l)) ∧ w = w' := by
  have hl := hr.long
  obtain ⟨A, c, rfl, _, _, _⟩ := id hr
  have Hr := hide hr; clear hr
  go_enter Try.func65, Try.ntmps65
  go_wp2
  go_loop [8] (fun i => ∃ k : Nat, k ≤ l.length ∧ i = .int .i64 k ∧ idxL s k (l.drop k) = idxL s 0 l) (fun i => l.length - (intOf i).toNat)
  case atStart => exact ⟨0, by omega, rfl, by simp⟩
  case round =>
    obtain ⟨k, hk, rfl, hix⟩ := hrel
    by_cases hlt : k < l.length
    · obtain ⟨b, o, e1, hbB, s0⟩ := Hr.out.at_ (j := k) (by rw [icells_length]; exact hlt)
      cases e1
      rw [icells_get _ _ hlt] at s0
      have h1 := fun h => idx_yes (s := s) hlt h
      have h2 := fun h => idx_no (s := s) hlt h
      rw [hix] at h1 h2
      clear hix
      generalize l[k] = x at *
      by_cases hx : x = s
      · have H1 := hide (h1 hx)
        subst hx
        clear h1 h2
        go_wp2
        go_ret
        exact ⟨retI1 H1.out.symm, rfl⟩
      · have H2 := hide (h2 hx)
        have b3 : (s == x) = false := by rw [beq_eq_false_iff_ne]; exact fun e => hx e.symm
        clear h1 h2 hx
        go_wp2
        go_round
        case rel => exact ⟨k + 1, by omega, by go_num, H2.out.symm⟩
        case measure => simp [intOf]; omega
    · obtain rfl : k = l.length := by omega
      rw [List.drop_length] at hix
      have H := hide hix; clear hix
      go_wp2
      go_ret
      exact ⟨retI1 H.out, rfl⟩
theorem spec_l6Site (cs : List Value) (m : FuncM) (s : Int) (w : World) (hr : RFunc w 0 w.heap.size cs m) (hl : m.qStmts.length ≤ 16) :
    Calls Try.prog 64 #[.agg cs.toArray, .int .i64 s] w fun e w' => e = .returned (.int .i64 (idxL s 0 (sitesF 0 m.qStmts))) ∧ Below w.heap.size w w' := by
  obtain ⟨v2, v3, e, h2, h3⟩ := id hr
  subst e
  have hb := (Below.refl w.heap.size w).alloc (Nat.le_refl _) (.cells #[.int .i64 m.qParams, .int .i64 m.qVars, v2, v3] 42)
  have hs := spec_l3Sites _ m _ (RFunc_stable.here hr hb) hl
  have hsl := sitesF_length m.qStmts 0
  generalize sitesF 0 m.qStmts = l at *
  have Hb := hide hb; have Hs := hide hs; clear hb hs hr h2 h3
  go_enter Try.func64, Try.ntmps64
  go_wp2_with (go_at_call 45; refine (Hs.out).mono ?_; rintro e w1 ⟨v, rfl, hown, hb1⟩; obtain ⟨A, c, rfl⟩ := own_form hown; have Hr := hide (Rd.of_own hown); have Hb1 := hide (Hb.out.trans (hb1.mono Hb.out.size)); clear hown hb1)
  go_loop [10] (fun i => ∃ k : Nat, k ≤ l.length ∧ i = .int .i64 k ∧ idxL s k (l.drop k) = idxL s 0 l) (fun i => l.length - (intOf i).toNat)
  case atStart => exact ⟨0, by omega, rfl, by simp⟩
  case round =>
    obtain ⟨k, hk, rfl, hix⟩ := hrel
    by_cases hlt : k < l.length
    · obtain ⟨b, o, e1, hbB, s0⟩ := Hr.out.at_ (j := k) (by rw [icells_length]; exact hlt)
      cases e1
      rw [icells_get _ _ hlt] at s0
      have h1 := fun h => idx_yes (s := s) hlt h
      have h2 := fun h => idx_no (s := s) hlt h
      rw [hix] at h1 h2
      clear hix
      generalize l[k] = x at *
      by_cases hx : x = s
      · have H1 := hide (h1 hx)
        subst hx
        clear h1 h2
        go_wp2
        go_ret
        exact ⟨retI1 H1.out.symm, Hb1.out⟩
      · have H2 := hide (h2 hx)
        have b3 : (x == s) = false := by rw [beq_eq_false_iff_ne]; exact hx
        clear h1 h2 hx
        go_wp2
        go_round
        case rel => exact ⟨k + 1, by omega, by go_num, H2.out.symm⟩
        case measure => simp [intOf]; omega
    · obtain rfl : k = l.length := by omega
      rw [List.drop_length] at hix
      have H := hide hix; clear hix
      go_wp2
      go_ret
      exact ⟨retI1 H.out, Hb1.out⟩
def siteI (fs : List FuncM) (fn s : Int) : Int := idxL s 0 (sitesF 0 (fs.getD fn.toNat fn0).qStmts)
def siteOk (fs : List FuncM) (fn s : Int) : Bool := okF fs fn && decide (0 ≤ siteI fs fn s)
def siteR (fs : List FuncM) (fn s : Int) : Int := if siteOk fs fn s then siteI fs fn s else 0
set_option maxHeartbeats 3200000 in
theorem spec_SiteOf (cs : List Value) (m : ProgM) (fn s : Int) (w : World) (hr : RProg w 0 w.heap.size cs m) (hz : szProgN m ≤ 1048576) :
    Calls Try.prog 29 #[.agg cs.toArray, .int .i64 fn, .int .i64 s] w fun e w' => e = .returned (.tuple #[.int .i64 (siteR m.qFuncs fn s), .bool (siteOk m.qFuncs fn s)]) ∧ Below w.heap.size w w' := by
  have hr0 := hr
  obtain ⟨v0, rfl, h0⟩ := hr
  obtain ⟨l⟩ := m
  dsimp only at *
  obtain ⟨A, c, rfl⟩ := h0.form
  have hll := fs_le hz
  dsimp only at hll
  have hb := (Below.refl w.heap.size w).alloc (Nat.le_refl _) (.cells #[.slice A l.length c] 29)
  have hk := Bk.new w 29 #[.slice A l.length c]
  have hG := spec_GoodProg _ ⟨l⟩ _ (RProg_stable.here hr0 hb) hz
  dsimp only at hG
  have H0 := hide h0; have Hb := hide hb; have Hk := hide hk
  clear hr0 h0 hb hk
  have hf : okF l fn = false → siteOk l fn s = false := fun h => by unfold siteOk; rw [h]; rfl
  have hf2 : siteOk l fn s = false → siteR l fn s = 0 := fun h => by unfold siteR; rw [h]; rfl
  have hf3 : siteOk l fn s = true → siteR l fn s = siteI l fn s := fun h => by unfold siteR; rw [h]; rfl
  have hw := fun w => spec_l1In fn 0 (l.length - 1) w
  cases hg : progS l
  · have h1 := hf (okF_g (fn := fn) hg)
    have h2 := hf2 h1
    rw [hg] at hG
    have HG := hide hG; have H1 := hide h1; have H2 := hide h2; clear hG hg hf hf2 hf3 h1 h2 hw
    go_enter Try.func29, Try.ntmps29
    go_wp2_with (go_at_call 12; refine (HG.out).mono ?_; rintro e w1 ⟨rfl, hb1⟩)
    go_ret2
    exact ⟨retIB H2.out.symm H1.out.symm, Hb.out.trans (hb1.mono Hb.out.size)⟩
  rw [hg] at hG
  have HG := hide hG; clear hG
  cases hi : inB fn 0 (l.length - 1)
  · have h1 := hf (okF_i hi)
    have h2 := hf2 h1
    simp only [hi] at hw
    have HW := Lib.hid hw; have H1 := hide h1; have H2 := hide h2; clear hg hf hf2 hf3 h1 h2 hi hw
    go_enter Try.func29, Try.ntmps29
    go_wp2_with (first
      | (go_at_call 12; refine (HG.out).mono ?_; rintro e w1 ⟨rfl, hb1⟩; have q0 := (Hk.out.below hb1).cell 0)
      | (go_at_call 41; refine (HW.out _).mono ?_; rintro e w2 ⟨rfl, rfl⟩))
    go_ret2
    exact ⟨retIB H2.out.symm H1.out.symm, Hb.out.trans (hb1.mono Hb.out.size)⟩
  have h1 := okF_y hg hi
  obtain ⟨n, rfl, hn⟩ := fs_len hi
  simp only [hi] at hw
  have hsi : siteI l n s = idxL s 0 (sitesF 0 l[n].qStmts) := by
    have e : l.getD n fn0 = l[n] := by simp [List.getD, List.getElem?_eq_getElem hn]
    unfold siteI; rw [Int.toNat_natCast, e]
  have hso : siteOk l n s = decide (0 ≤ siteI l n s) := by unfold siteOk; rw [h1]; rfl
  have h16 := prog_sh hg hn
  obtain ⟨b, o, A2, c2, A3, c3, rfl, hbB, d0, d1, d2, d3, hx⟩ := RFunc_lit H0.out hn
  have hS := fun W (hW : Below w.heap.size w W) => spec_l6Site _ l[n] s W (RFunc_stable.here hx hW) h16
  rw [← hsi] at hS
  have HW := Lib.hid hw; have D0 := hide d0; have D1 := hide d1; have D2 := hide d2; have D3 := hide d3
  clear hw h1 hf hg hi d0 d1 d2 d3 hx h16 hsi
  generalize l[n] = f at *
  obtain ⟨f0, f1, f2, f3⟩ := f
  dsimp only at *
  generalize siteI l n s = I at *
  have hnI : (n : Int) < (l.length : Int) := by omega
  have hn0 : (0 : Int) ≤ (n : Int) := by omega
  have HS := hide hS; clear hS
  by_cases hI : 0 ≤ I
  · have h1 := hso.trans (decide_eq_true hI)
    have H1 := hide h1; have H2 := hide (hf3 h1)
    have hI' : ¬ I < 0 := by omega
    clear h1 hf2 hf3 hso hI
    go_enter Try.func29, Try.ntmps29
    go_wp2_with (first
      | (go_at_call 12; refine (HG.out).mono ?_; rintro e w1 ⟨rfl, hb1⟩; have Hb1 := hide (Hb.out.trans (hb1.mono Hb.out.size)); have Hk1 := hide (Hk.out.below hb1); have q0 := Hk1.out.cell 0; have q1 := (Hb1.out.cell (p := ⟨b, o + n * 4, none⟩) hbB).trans D0.out; have q2 := (Hb1.out.cell (p := ⟨b, o + n * 4 + 1, none⟩) hbB).trans D1.out; have q3 := (Hb1.out.cell (p := ⟨b, o + n * 4 + 2, none⟩) hbB).trans D2.out; have q4 := (Hb1.out.cell (p := ⟨b, o + n * 4 + 3, none⟩) hbB).trans D3.out; have HC := hide (HS.out _ Hb1.out); clear hb1)
      | (go_at_call 41; refine (HW.out _).mono ?_; rintro e w2 ⟨rfl, rfl⟩)
      | (go_at_call 64; refine (HC.out).mono ?_; rintro e w2 ⟨rfl, hb2⟩; clear q0 q1 q2 q3 q4 HC; have Hb2 := hide (Hb1.out.trans (hb2.mono Hb1.out.size)); have Hk2 := hide (Hk1.out.below hb2); have q0 := Hk2.out.cell 0; have q1 := (Hb2.out.cell (p := ⟨b, o + n * 4, none⟩) hbB).trans D0.out; have q2 := (Hb2.out.cell (p := ⟨b, o + n * 4 + 1, none⟩) hbB).trans D1.out; have q3 := (Hb2.out.cell (p := ⟨b, o + n * 4 + 2, none⟩) hbB).trans D2.out; have q4 := (Hb2.out.cell (p := ⟨b, o + n * 4 + 3, none⟩) hbB).trans D3.out; have HC2 := hide (HS.out _ Hb2.out); clear hb2)
      | (go_at_call 64; refine (HC2.out).mono ?_; rintro e w3 ⟨rfl, hb3⟩))
    go_ret2
    exact ⟨retIB H2.out.symm H1.out.symm, Hb2.out.trans (hb3.mono Hb2.out.size)⟩
  · have h1 := hso.trans (decide_eq_false hI)
    have H1 := hide h1; have H2 := hide (hf2 h1)
    have hI' : I < 0 := by omega
    clear h1 hf2 hf3 hso hI
    go_enter Try.func29, Try.ntmps29
    go_wp2_with (first
      | (go_at_call 12; refine (HG.out).mono ?_; rintro e w1 ⟨rfl, hb1⟩; have Hb1 := hide (Hb.out.trans (hb1.mono Hb.out.size)); have Hk1 := hide (Hk.out.below hb1); have q0 := Hk1.out.cell 0; have q1 := (Hb1.out.cell (p := ⟨b, o + n * 4, none⟩) hbB).trans D0.out; have q2 := (Hb1.out.cell (p := ⟨b, o + n * 4 + 1, none⟩) hbB).trans D1.out; have q3 := (Hb1.out.cell (p := ⟨b, o + n * 4 + 2, none⟩) hbB).trans D2.out; have q4 := (Hb1.out.cell (p := ⟨b, o + n * 4 + 3, none⟩) hbB).trans D3.out; have HC := hide (HS.out _ Hb1.out); clear hb1)
      | (go_at_call 41; refine (HW.out _).mono ?_; rintro e w2 ⟨rfl, rfl⟩)
      | (go_at_call 64; refine (HC.out).mono ?_; rintro e w2 ⟨rfl, hb2⟩))
    go_ret2
    exact ⟨retIB H2.out.symm H1.out.symm, Hb1.out.trans (hb2.mono Hb1.out.size)⟩
set_option maxHeartbeats 3200000 in
theorem impl_SiteOf (cs : List Value) (m : ProgM) (fn s : Int) (w : World) (hr : RProg w 0 w.heap.size cs m) (hz : szProgN m ≤ 1048576) :
    Calls Try.prog 30 #[.agg cs.toArray, .int .i64 fn, .int .i64 s] w fun e w' => e = .returned (.tuple #[.int .i64 (siteR m.qFuncs fn s), .bool (siteOk m.qFuncs fn s)]) ∧ Below w.heap.size w w' := by
  have hr0 := hr
  obtain ⟨v0, rfl, h0⟩ := hr
  obtain ⟨l⟩ := m
  dsimp only at *
  obtain ⟨A, c, rfl⟩ := h0.form
  have hll := fs_le hz
  dsimp only at hll
  have hb := (Below.refl w.heap.size w).alloc (Nat.le_refl _) (.cells #[.slice A l.length c] 29)
  have hk := Bk.new w 29 #[.slice A l.length c]
  have hG := impl_isProg _ ⟨l⟩ _ (RProg_stable.here hr0 hb) hz
  rw [← prog_eq] at hG
  dsimp only at hG
  have H0 := hide h0; have Hb := hide hb; have Hk := hide hk
  clear hr0 h0 hb hk
  have hf : okF l fn = false → siteOk l fn s = false := fun h => by unfold siteOk; rw [h]; rfl
  have hf2 : siteOk l fn s = false → siteR l fn s = 0 := fun h => by unfold siteR; rw [h]; rfl
  have hf3 : siteOk l fn s = true → siteR l fn s = siteI l fn s := fun h => by unfold siteR; rw [h]; rfl
  have hw := fun w => impl_within fn 0 (l.length - 1) w
  cases hg : progS l
  · have h1 := hf (okF_g (fn := fn) hg)
    have h2 := hf2 h1
    rw [hg] at hG
    have HG := hide hG; have H1 := hide h1; have H2 := hide h2; clear hG hg hf hf2 hf3 h1 h2 hw
    go_enter Try.func30, Try.ntmps30
    go_wp2_with (go_at_call 47; refine (HG.out).mono ?_; rintro e w1 ⟨rfl, hb1⟩)
    go_ret2
    exact ⟨retIB H2.out.symm H1.out.symm, Hb.out.trans (hb1.mono Hb.out.size)⟩
  rw [hg] at hG
  have HG := hide hG; clear hG
  cases hi : inB fn 0 (l.length - 1)
  · have h1 := hf (okF_i hi)
    have h2 := hf2 h1
    simp only [hi] at hw
    have HW := Lib.hid hw; have H1 := hide h1; have H2 := hide h2; clear hg hf hf2 hf3 h1 h2 hi hw
    go_enter Try.func30, Try.ntmps30
    go_wp2_with (first
      | (go_at_call 47; refine (HG.out).mono ?_; rintro e w1 ⟨rfl, hb1⟩; have q0 := (Hk.out.below hb1).cell 0)
      | (go_at_call 60; refine (HW.out _).mono ?_; rintro e w2 ⟨rfl, rfl⟩))
    go_ret2
    exact ⟨retIB H2.out.symm H1.out.symm, Hb.out.trans (hb1.mono Hb.out.size)⟩
  have h1 := okF_y hg hi
  obtain ⟨n, rfl, hn⟩ := fs_len hi
  simp only [hi] at hw
  have hsi : siteI l n s = idxL s 0 (sitesF 0 l[n].qStmts) := by
    have e : l.getD n fn0 = l[n] := by simp [List.getD, List.getElem?_eq_getElem hn]
    unfold siteI; rw [Int.toNat_natCast, e]
  have hso : siteOk l n s = decide (0 ≤ siteI l n s) := by unfold siteOk; rw [h1]; rfl
  have h16 := prog_sh hg hn
  obtain ⟨b, o, A2, c2, A3, c3, rfl, hbB, d0, d1, d2, d3, hx⟩ := RFunc_lit H0.out hn
  have hS := fun W (hW : Below w.heap.size w W) => impl_sitesOf _ l[n] W (RFunc_stable.here hx hW) h16
  have HW := Lib.hid hw; have D0 := hide d0; have D1 := hide d1; have D2 := hide d2; have D3 := hide d3
  clear hw h1 hf hg hi d0 d1 d2 d3 hx h16
  generalize l[n] = f at *
  obtain ⟨f0, f1, f2, f3⟩ := f
  dsimp only at *
  generalize sitesF 0 f3 = S at *
  have hIx := fun v W B hr => ix_Index v S s W B hr
  rw [← hsi] at hIx
  generalize siteI l n s = I at *
  have hnI : (n : Int) < (l.length : Int) := by omega
  have hn0 : (0 : Int) ≤ (n : Int) := by omega
  have HS := hide hS; have HI := hide hIx; clear hS hIx hsi
  by_cases hI : 0 ≤ I
  · have h1 := hso.trans (decide_eq_true hI)
    have H1 := hide h1; have H2 := hide (hf3 h1)
    have hI' : ¬ I < 0 := by omega
    clear h1 hf2 hf3 hso hI
    go_enter Try.func30, Try.ntmps30
    go_wp2_with (first
      | (go_at_call 47; refine (HG.out).mono ?_; rintro e w1 ⟨rfl, hb1⟩; have Hb1 := hide (Hb.out.trans (hb1.mono Hb.out.size)); have Hk1 := hide (Hk.out.below hb1); have q0 := Hk1.out.cell 0; have q1 := (Hb1.out.cell (p := ⟨b, o + n * 4, none⟩) hbB).trans D0.out; have q2 := (Hb1.out.cell (p := ⟨b, o + n * 4 + 1, none⟩) hbB).trans D1.out; have q3 := (Hb1.out.cell (p := ⟨b, o + n * 4 + 2, none⟩) hbB).trans D2.out; have q4 := (Hb1.out.cell (p := ⟨b, o + n * 4 + 3, none⟩) hbB).trans D3.out; have HC := hide (HS.out _ Hb1.out); clear hb1)
      | (go_at_call 60; refine (HW.out _).mono ?_; rintro e w2 ⟨rfl, rfl⟩)
      | (go_at_call 59; refine (HC.out).mono ?_; rintro e w2 ⟨v, rfl, hown, hb2⟩; have Hb2 := hide (Hb1.out.trans (hb2.mono Hb1.out.size)); have HC2 := hide (HI.out v w2 _ (Rd.of_own hown)); clear hb2 hown)
      | (go_at_call 65; refine (HC2.out).mono ?_; rintro e w3 ⟨rfl, rfl⟩))
    go_ret2
    exact ⟨retIB H2.out.symm H1.out.symm, Hb2.out⟩
  · have h1 := hso.trans (decide_eq_false hI)
    have H1 := hide h1; have H2 := hide (hf2 h1)
    have hI' : I < 0 := by omega
    clear h1 hf2 hf3 hso hI
    go_enter Try.func30, Try.ntmps30
    go_wp2_with (first
      | (go_at_call 47; refine (HG.out).mono ?_; rintro e w1 ⟨rfl, hb1⟩; have Hb1 := hide (Hb.out.trans (hb1.mono Hb.out.size)); have Hk1 := hide (Hk.out.below hb1); have q0 := Hk1.out.cell 0; have q1 := (Hb1.out.cell (p := ⟨b, o + n * 4, none⟩) hbB).trans D0.out; have q2 := (Hb1.out.cell (p := ⟨b, o + n * 4 + 1, none⟩) hbB).trans D1.out; have q3 := (Hb1.out.cell (p := ⟨b, o + n * 4 + 2, none⟩) hbB).trans D2.out; have q4 := (Hb1.out.cell (p := ⟨b, o + n * 4 + 3, none⟩) hbB).trans D3.out; have HC := hide (HS.out _ Hb1.out); clear hb1)
      | (go_at_call 60; refine (HW.out _).mono ?_; rintro e w2 ⟨rfl, rfl⟩)
      | (go_at_call 59; refine (HC.out).mono ?_; rintro e w2 ⟨v, rfl, hown, hb2⟩; have Hb2 := hide (Hb1.out.trans (hb2.mono Hb1.out.size)); have HC2 := hide (HI.out v w2 _ (Rd.of_own hown)); clear hb2 hown)
      | (go_at_call 65; refine (HC2.out).mono ?_; rintro e w3 ⟨rfl, rfl⟩))
    go_ret2
    exact ⟨retIB H2.out.symm H1.out.symm, Hb2.out⟩
end Go.Proofs.Ytdniplnggikkgaa
