
/- NextOf on both sides. No condition. -/
import Derived.Test.YtgkjakoagdkpcaaGreatDoorPt
import Derived.Test.YtgkjakoagdkpcaaGreatDoorImI
import Derived.Test.YtgkjakoagdkpcaaGreatDoorGc5
set_option linter.unusedSimpArgs false
set_option linter.unusedVariables false
set_option maxRecDepth 100000
namespace Go.Proofs.YtgkjakoagdkpcaaGreatDoor
open Go.RowKit

def okN (t : P2) (a : Int) : Bool := insOk t && inB a 0 300
def nxR (t : P2) (a : Int) : List Int := if okN t a then nextI t a else []
theorem nxR_length (t : P2) (a : Int) : (nxR t a).length ≤ 2 := by
  unfold nxR; split
  · exact nextI_length t a
  · simp
set_option maxHeartbeats 1600000 in
theorem spec_NextOf (o n a : Int) (w : World) :
    Calls Tryz.prog 18 #[.agg #[.int .i64 o, .int .i64 n], .int .i64 a] w fun e w' => ∃ v, e = .returned (.tuple #[v, .bool (okN ⟨o, n⟩ a)]) ∧ w'.ownsRow w.heap.size 3 1 v (nxR ⟨o, n⟩ a).length (icells .i64 (nxR ⟨o, n⟩ a)) ∧ Below w.heap.size w w' := by
  have hb := (Below.refl w.heap.size w).alloc (Nat.le_refl _) (.cells #[.int .i64 o, .int .i64 n] 41)
  have hk := Bk.new w 41 #[.int .i64 o, .int .i64 n]
  have hI := spec_l5Ins o n (w.alloc (.cells #[.int .i64 o, .int .i64 n] 41))
  have hW := fun w => spec_l1In a 0 300 w
  have hok : okN ⟨o, n⟩ a = (insOk ⟨o, n⟩ && inB a 0 300) := rfl
  have hno : okN ⟨o, n⟩ a = false → nxR ⟨o, n⟩ a = [] := fun h => by unfold nxR; rw [h]; rfl
  have hyes : okN ⟨o, n⟩ a = true → nxR ⟨o, n⟩ a = nextI ⟨o, n⟩ a := fun h => by unfold nxR; rw [h]; rfl
  have Hb := hide hb; have Hk := hide hk; clear hb hk
  cases h1 : insOk ⟨o, n⟩
  · rw [h1] at hI
    have e : okN ⟨o, n⟩ a = false := by rw [hok, h1]; rfl
    rw [hno e, e]
    have HI := hide hI; clear hI hW hok hno hyes h1 e
    go_enter Tryz.func18, Tryz.ntmps18
    go_wp2_with (go_at_call 36; refine (HI.out).mono ?_; rintro e w1 ⟨rfl, hb1⟩)
    go_ret2
    exact ⟨_, rfl, World.ownsRow_nil _ _ _ _, Hb.out.trans (hb1.mono Hb.out.size)⟩
  rw [h1] at hI
  have HI := hide hI; clear hI
  cases h2 : inB a 0 300
  · simp only [h2] at hW
    have e : okN ⟨o, n⟩ a = false := by rw [hok, h1, h2]; rfl
    rw [hno e, e]
    have HW := Lib.hid hW; clear hW hok hno hyes h1 h2 e
    go_enter Tryz.func18, Tryz.ntmps18
    go_wp2_with (first
      | (go_at_call 36; refine (HI.out).mono ?_; rintro e w1 ⟨rfl, hb1⟩)
      | (go_at_call 28; refine (HW.out _).mono ?_; rintro e w2 ⟨rfl, rfl⟩))
    go_ret2
    exact ⟨_, rfl, World.ownsRow_nil _ _ _ _, Hb.out.trans (hb1.mono Hb.out.size)⟩
  obtain ⟨q1, q2⟩ := inB_iff.1 h2
  simp only [h2] at hW
  have e : okN ⟨o, n⟩ a = true := by rw [hok, h1, h2]; rfl
  rw [hyes e, e]
  have hN := fun w => spec_l5Next o n a w q1 q2
  generalize nextI ⟨o, n⟩ a = L at *
  have HW := Lib.hid hW; have HN := Lib.hid hN; clear hW hN hok hno hyes h1 h2 e
  go_enter Tryz.func18, Tryz.ntmps18
  go_wp2_with (first
    | (go_at_call 36; refine (HI.out).mono ?_; rintro e w1 ⟨rfl, hb1⟩; have hk1 := Hk.out.below hb1; have hl1 := hk1.lt; have p0 := hk1.cell 0; have p1 := hk1.cell 1; have Hb1 := hide (Hb.out.trans (hb1.mono Hb.out.size)); clear hk1 hb1)
    | (go_at_call 28; refine (HW.out _).mono ?_; rintro e w2 ⟨rfl, rfl⟩)
    | (go_at_call 39; refine (HN.out _).mono ?_; rintro e w3 ⟨v, rfl, hown, hb3⟩))
  go_ret2
  exact ⟨_, rfl, own_base hown Hb1.out.size, Hb1.out.trans (hb3.mono Hb1.out.size)⟩
set_option maxHeartbeats 1600000 in
theorem impl_NextOf (o n a : Int) (w : World) :
    Calls Tryz.prog 14 #[.agg #[.int .i64 o, .int .i64 n], .int .i64 a] w fun e w' => ∃ v, e = .returned (.tuple #[v, .bool (okN ⟨o, n⟩ a)]) ∧ w'.ownsRow w.heap.size 3 1 v (nxR ⟨o, n⟩ a).length (icells .i64 (nxR ⟨o, n⟩ a)) ∧ Below w.heap.size w w' := by
  have hb := (Below.refl w.heap.size w).alloc (Nat.le_refl _) (.cells #[.int .i64 o, .int .i64 n] 41)
  have hk := Bk.new w 41 #[.int .i64 o, .int .i64 n]
  have hI := impl_isIns o n (w.alloc (.cells #[.int .i64 o, .int .i64 n] 41))
  have hW := fun w => impl_within a 0 300 w
  have hok : okN ⟨o, n⟩ a = (insOk ⟨o, n⟩ && inB a 0 300) := rfl
  have hno : okN ⟨o, n⟩ a = false → nxR ⟨o, n⟩ a = [] := fun h => by unfold nxR; rw [h]; rfl
  have hyes : okN ⟨o, n⟩ a = true → nxR ⟨o, n⟩ a = nextI ⟨o, n⟩ a := fun h => by unfold nxR; rw [h]; rfl
  have Hb := hide hb; have Hk := hide hk; clear hb hk
  cases h1 : insOk ⟨o, n⟩
  · rw [h1] at hI
    have e : okN ⟨o, n⟩ a = false := by rw [hok, h1]; rfl
    rw [hno e, e]
    have HI := hide hI; clear hI hW hok hno hyes h1 e
    go_enter Tryz.func14, Tryz.ntmps14
    go_wp2_with (go_at_call 31; refine (HI.out).mono ?_; rintro e w1 ⟨rfl, hb1⟩)
    go_ret2
    exact ⟨_, rfl, World.ownsRow_nil _ _ _ _, Hb.out.trans (hb1.mono Hb.out.size)⟩
  rw [h1] at hI
  have HI := hide hI; clear hI
  cases h2 : inB a 0 300
  · simp only [h2] at hW
    have e : okN ⟨o, n⟩ a = false := by rw [hok, h1, h2]; rfl
    rw [hno e, e]
    have HW := Lib.hid hW; clear hW hok hno hyes h1 h2 e
    go_enter Tryz.func14, Tryz.ntmps14
    go_wp2_with (first
      | (go_at_call 31; refine (HI.out).mono ?_; rintro e w1 ⟨rfl, hb1⟩)
      | (go_at_call 24; refine (HW.out _).mono ?_; rintro e w2 ⟨rfl, rfl⟩))
    go_ret2
    exact ⟨_, rfl, World.ownsRow_nil _ _ _ _, Hb.out.trans (hb1.mono Hb.out.size)⟩
  obtain ⟨q1, q2⟩ := inB_iff.1 h2
  simp only [h2] at hW
  have e : okN ⟨o, n⟩ a = true := by rw [hok, h1, h2]; rfl
  rw [hyes e, e]
  have hN := fun w => impl_nextOf o n a w q1 q2
  generalize nextI ⟨o, n⟩ a = L at *
  have HW := Lib.hid hW; have HN := Lib.hid hN; clear hW hN hok hno hyes h1 h2 e
  go_enter Tryz.func14, Tryz.ntmps14
  go_wp2_with (first
    | (go_at_call 31; refine (HI.out).mono ?_; rintro e w1 ⟨rfl, hb1⟩; have hk1 := Hk.out.below hb1; have hl1 := hk1.lt; have p0 := hk1.cell 0; have p1 := hk1.cell 1; have Hb1 := hide (Hb.out.trans (hb1.mono Hb.out.size)); clear hk1 hb1)
    | (go_at_call 24; refine (HW.out _).mono ?_; rintro e w2 ⟨rfl, rfl⟩)
    | (go_at_call 33; refine (HN.out _).mono ?_; rintro e w3 ⟨v, rfl, hown, hb3⟩))
  go_ret2
  exact ⟨_, rfl, own_base hown Hb1.out.size, Hb1.out.trans (hb3.mono Hb1.out.size)⟩
end Go.Proofs.YtgkjakoagdkpcaaGreatDoor
set_option linter.unusedSimpArgs false
set_option linter.unusedVariables false
namespace Go.Proofs.YtgkjakoagdkpcaaGreatDoor

theorem codeN_parts {l : List CodeM} {c : CodeM} (h : codeN l c = 0) : c.qIns.all (namedI l.length c) = true ∧ goesL c.qIns.length 0 c.qIns = true ∧ ∃ hs, (waysOf l c).heights = some hs := by
  unfold codeN at h
  by_cases h1 : c.qIns.all (namedI l.length c) = false
  · rw [if_pos h1] at h; cases h
  rw [if_neg h1] at h
  by_cases h2 : c.qSites.all (siteI l) = false
  · rw [if_pos h2] at h; cases h
  rw [if_neg h2] at h
  by_cases h3 : goesL c.qIns.length 0 c.qIns = false
  · rw [if_pos h3] at h; cases h
  rw [if_neg h3] at h
  by_cases h4 : rowsOk c.qIns.length 0 c.qRows = false
  · rw [if_pos h4] at h; cases h
  rw [if_neg h4] at h
  refine ⟨by simpa using h1, by simpa using h3, ?_⟩
  cases hh : (waysOf l c).heights with
  | none => rw [hh] at h; cases h
  | some hs => exact ⟨hs, rfl⟩
theorem heights_inv {W : Ways} {hs : List Int} (h : W.heights = some hs) : HInv W hs [] := by
  unfold Ways.heights at h
  split at h
  · next hex => injection h with h; rw [← h]; exact hex.choose_spec
  · cases h
/-- the heights of the code: its places fit -/
theorem ho_facts {l : List CodeM} {fn : Int} (h : hoOk l fn = true) : ∃ (n : Nat) (hn : n < l.length), fn = n ∧ (hoR l fn).length = l[n].qIns.length ∧ (1 ≤ l[n].qIns.length ∧ l[n].qIns.length ≤ 300) ∧
    ∀ (a : Nat) (ha : a < l[n].qIns.length) (hb : a < (hoR l fn).length), 0 ≤ (hoR l fn)[a] → tpF l l[n].qIns[a] = (takes l l[n].qIns[a], puts l[n].qIns[a], true) ∧ okN l[n].qIns[a] a = true ∧ takes l l[n].qIns[a] ≤ (hoR l fn)[a] ∧ 0 ≤ takes l l[n].qIns[a] ∧ takes l l[n].qIns[a] ≤ 2 ∧ (hoR l fn)[a] ≤ 40 ∧
      ∀ m ∈ nxR l[n].qIns[a] a, ∃ k : Nat, m = k ∧ ∃ hk : k < (hoR l fn).length, (hoR l fn)[k] = (hoR l fn)[a] - takes l l[n].qIns[a] + puts l[n].qIns[a] := by
  have h0 := h
  unfold hoOk at h0
  simp only [Bool.and_eq_true, decide_eq_true_eq] at h0
  obtain ⟨hg, hz⟩ := h0
  have hg0 := hg
  unfold gcOk at hg
  rw [Bool.and_eq_true] at hg
  obtain ⟨hsz, hin⟩ := hg
  obtain ⟨n, rfl, hn⟩ := in_nat hin
  have e : l.getD n c0 = l[n] := by simp [List.getD, List.getElem?_eq_getElem hn]
  unfold gcR at hz
  rw [if_pos hg0, Int.toNat_natCast, e] at hz
  obtain ⟨hnm, hgo, hs, hhs⟩ := codeN_parts hz
  have hI := heights_inv hhs
  have hR := hoR_yes h hn hI
  rw [hR]
  have hok := codeOk_iff.1 ((sizedB_iff.1 hsz).2 _ (List.getElem_mem hn))
  have hpar : ∀ k (hk : k < l.length), 0 ≤ l[k].qParams ∧ l[k].qParams ≤ 2 := fun k hk => (codeOk_iff.1 ((sizedB_iff.1 hsz).2 _ (List.getElem_mem hk))).1
  obtain ⟨i1, i2, i3, i4, i5⟩ := hI
  have hN : (waysOf l l[n]).N = l[n].qIns.length := rfl
  have hlen : hs.length = l[n].qIns.length := by rw [i1, hN]
  refine ⟨n, hn, rfl, hlen, hok.2.2.2.1, fun a ha hb h0 => ?_⟩
  have hmem := List.getElem_mem ha
  have hiok := hok.2.2.2.2.2 _ hmem
  have hnam := List.all_eq_true.1 hnm _ hmem
  have hgoes := goesL_all l[n].qIns 0 hgo a ha
  rw [Nat.zero_add] at hgoes
  have hlab : lab hs a = hs[a] := lab_in hb
  have hcl := (i5 a (by rw [hlab]; exact h0)).resolve_left (by simp)
  obtain ⟨u, hu, hnx⟩ := hcl
  rw [ways_out ha, hlab] at hu
  rw [ways_nx ha] at hnx
  have h40 := i4 a
  rw [hlab] at h40
  generalize l[n].qIns[a] = t at *
  have hcall : t.o = 7 → 0 ≤ t.n ∧ t.n < l.length := by
    intro e7
    constructor
    · unfold insOk at hiok
      rw [if_neg (by omega), if_neg (by omega), if_pos (by unfold hasNB; simp [e7])] at hiok
      exact (inB_iff.1 hiok).1
    · unfold namedI namedP at hnam
      rw [if_neg (by omega), if_neg (by omega), if_pos e7] at hnam
      exact of_decide_eq_true hnam
  have htk : 0 ≤ takes l t ∧ takes l t ≤ 2 := by
    unfold takes
    split
    · omega
    · split
      · omega
      · split
        · next e7 =>
          obtain ⟨c1, c2⟩ := hcall e7
          have hk : t.n.toNat < l.length := by omega
          have := hpar t.n.toNat hk
          simp [List.getD, List.getElem?_eq_getElem hk]; exact this
        · omega
  have htp : tpOk l t = true := by
    unfold tpOk
    rw [hsz, hiok]
    simp only [Bool.true_and, decide_eq_true_eq]
    by_cases e7 : t.o = 7
    · exact .inr (hcall e7).2
    · exact .inl e7
  have hokn : okN t a = true := by unfold okN; rw [hiok, Bool.true_and]; exact inB_iff.2 ⟨by omega, by omega⟩
  have hout : takes l t ≤ hs[a] ∧ u = hs[a] - takes l t + puts t := by
    unfold outH at hu
    split at hu
    · cases hu
    · next g => injection hu with hu; exact ⟨by omega, hu.symm⟩
  refine ⟨by unfold tpF; rw [if_pos htp], hokn, hout.1, htk.1, htk.2, by omega, fun m hm => ?_⟩
  unfold nxR at hm
  rw [if_pos hokn] at hm
  have hr := hgoes m hm
  obtain ⟨k, rfl⟩ := Int.eq_ofNat_of_zero_le hr.1
  have hk : k < hs.length := by rw [hlen]; omega
  refine ⟨k, rfl, hk, ?_⟩
  have := hnx k (List.mem_map.2 ⟨(k : Int), hm, by simp⟩)
  rw [lab_in hk] at this
  rw [this, hout.2]
end Go.Proofs.YtgkjakoagdkpcaaGreatDoor
