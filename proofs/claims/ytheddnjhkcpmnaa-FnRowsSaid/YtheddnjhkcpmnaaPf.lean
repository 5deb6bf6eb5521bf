
/- The row of a place, PadFor: what the Go text returns. No condition. -/
import Derived.Test.YtheddnjhkcpmnaaGr
import Derived.Test.YtheddnjhkcpmnaaBlk
set_option linter.unusedSimpArgs false
set_option linter.unusedVariables false
set_option maxRecDepth 100000
namespace Go.Proofs.Ytheddnjhkcpmnaa
open Go.RowKit

theorem Rd.go' {w w' : World} {n : Nat} {v : Value} {cs : List Value} (h : Rd w w.heap.size v n cs) (hb : Below w.heap.size w w') : Rd w' w'.heap.size v n cs := (h.below hb).more hb.size
theorem rowOf_yes (r : R3) (a : Int) (g : Nat) (w : World) (hc : w.cell? ⟨g, 0, none⟩ = some (.int .i64 a)) (hg : g < w.heap.size) (h : hit a r) :
    Calls Try.prog 128 #[.agg #[.int .i64 r.f, .int .i64 r.t, .int .i64 r.p], .pointer (some ⟨g, 0, none⟩)] w fun e w' => e = .returned (.bool true) ∧ Below w.heap.size w w' := by
  obtain ⟨h1, h2⟩ := h
  go_enter Try.func128, Try.ntmps128
  go_wp2
  go_ret
  exact ⟨rfl, (Below.refl _ _).alloc (Nat.le_refl _) _⟩
theorem rowOf_no (r : R3) (a : Int) (g : Nat) (w : World) (hc : w.cell? ⟨g, 0, none⟩ = some (.int .i64 a)) (hg : g < w.heap.size) (h : ¬ hit a r) :
    Calls Try.prog 128 #[.agg #[.int .i64 r.f, .int .i64 r.t, .int .i64 r.p], .pointer (some ⟨g, 0, none⟩)] w fun e w' => e = .returned (.bool false) ∧ Below w.heap.size w w' := by
  unfold hit at h
  by_cases h1 : r.f ≤ a
  · have h2 : ¬ a < r.t := fun h2 => h ⟨h1, h2⟩
    clear h
    have hd : decide (a < r.t) = false := by simp; omega
    go_enter Try.func128, Try.ntmps128
    go_wp2
    go_ret
    exact ⟨rfl, (Below.refl _ _).alloc (Nat.le_refl _) _⟩
  · clear h
    go_enter Try.func128, Try.ntmps128
    go_wp2
    go_ret
    exact ⟨rfl, (Below.refl _ _).alloc (Nat.le_refl _) _⟩

set_option maxHeartbeats 800000 in
theorem indexRow (A : Option Addr) (c : Nat) (l : List R3) (a : Int) (g : Nat) (w : World) (hr : Rd w w.heap.size (.slice A l.length c) l.length (rcells l)) (hl : l.length ≤ 9223372036854775807) (hc : w.cell? ⟨g, 0, none⟩ = some (.int .i64 a)) (hg : g < w.heap.size) :
    Calls Try.prog 127 #[.slice A l.length c, .func (Fn.func 128) #[] #[.pointer (some ⟨g, 0, none⟩)]] w fun e w' => e = .returned (.int .i64 (rowIx a l 0)) ∧ Below w.heap.size w w' := by
  have Hr := hide hr; clear hr
  have Hc := hide hc; clear hc
  go_enter Try.func127, Try.ntmps127
  go_wp2
  go_loopw [8] (fun i wr => ∃ k : Nat, k ≤ l.length ∧ i = .int .i64 k ∧ rowIx a (l.drop k) k = rowIx a l 0 ∧ Below w.heap.size w wr) (fun i _ => l.length - (intOf i).toNat)
  case atStart => exact ⟨0, by omega, rfl, rfl, Below.refl _ _⟩
  case round =>
    obtain ⟨k, hk, rfl, hix, hb⟩ := hrel
    by_cases hlt : k < l.length
    · obtain ⟨g0, g1, g2⟩ := rcells_get l k hlt
      obtain ⟨b, o, rfl, hbB, s0⟩ := Hr.out.at3 g0
      obtain ⟨_, _, e, _, s1⟩ := Hr.out.at3 g1
      cases e
      obtain ⟨_, _, e, _, s2⟩ := Hr.out.at3 g2
      cases e
      have hs0 := (hb.cell (p := ⟨b, o + k * 3, none⟩) hbB).trans s0
      have hs1 := (hb.cell (p := ⟨b, o + (k * 3 + 1), none⟩) hbB).trans s1
      have hs2 := (hb.cell (p := ⟨b, o + (k * 3 + 2), none⟩) hbB).trans s2
      rw [← Nat.add_assoc] at hs1 hs2
      have Hcr := hide ((hb.cell (p := ⟨g, 0, none⟩) hg).trans Hc.out)
      have hgr : g < wr.heap.size := Nat.lt_of_lt_of_le hg hb.size
      have hy := fun h => rowIx_yes (a := a) hlt h
      have hn := fun h => rowIx_no (a := a) hlt h
      rw [hix] at hy hn
      have Hb := hide hb
      clear hb s0 s1 s2 g0 g1 g2 Hr Hc hix
      generalize l[k] = r at *
      by_cases hh : hit a r
      · have Hy := hide (hy hh); clear hy hn
        have Hh := hide hh; clear hh
        go_wp2_with fail
        refine (rowOf_yes r a g _ Hcr.out hgr Hh.out).mono ?_
        rintro e w2 ⟨rfl, hb2⟩
        go_wp2
        go_ret
        exact ⟨retI Hy.out.symm, Hb.out.trans (hb2.mono Hb.out.size)⟩
      · have Hn := hide (hn hh); clear hy hn
        have Hh := hide hh; clear hh
        go_wp2_with fail
        refine (rowOf_no r a g _ Hcr.out hgr Hh.out).mono ?_
        rintro e w2 ⟨rfl, hb2⟩
        go_wp2
        go_roundw
        case rel => exact ⟨k + 1, by omega, by go_num, Hn.out.symm, Hb.out.trans (hb2.mono Hb.out.size)⟩
        case measure => simp [intOf]; omega
    · obtain rfl : k = l.length := by omega
      rw [rowIx_end] at hix
      have Hix := hide hix; clear hix
      go_wp2
      go_ret
      exact ⟨retI Hix.out, hb⟩

set_option maxHeartbeats 400000 in
theorem impl_rowOf (v : Value) (l : List R3) (a : Int) (w : World) (hr : Rd w w.heap.size v l.length (rcells l)) (hl : l.length ≤ 9223372036854775807) :
    Calls Try.prog 98 #[v, .int .i64 a] w fun e w' => e = .returned (.int .i64 (rowIx a l 0)) ∧ Below w.heap.size w w' := by
  obtain ⟨A, c, rfl, hn, hc, hcell⟩ := id hr
  have hW := (Below.refl w.heap.size w).alloc (Nat.le_refl _) (.cells #[.int .i64 a] 3)
  have hk := Bk.new w 3 #[.int .i64 a]
  have Hr := hide (hr.go' hW); have HW := hide hW; have Hk := hide hk; clear hr hcell hW hk
  go_enter Try.func98, Try.ntmps98
  go_wp2_with fail
  refine (indexRow A c l a _ _ Hr.out hl (Hk.out.cell 0) Hk.out.lt).mono ?_
  rintro e w2 ⟨rfl, hb2⟩
  go_wp2
  go_ret
  exact ⟨rfl, HW.out.trans (hb2.mono HW.out.size)⟩

theorem hit_lt {a : Int} {r : R3} (h : hit a r) : r.f ≤ a ∧ a ≤ r.t - 1 := by unfold hit at h; omega
theorem hit_no {a : Int} {r : R3} (h : ¬ hit a r) (h1 : r.f ≤ a) : ¬ a ≤ r.t - 1 := by unfold hit at h; omega

set_option maxHeartbeats 800000 in
theorem spec_l5RowAt (v : Value) (l : List R3) (a : Int) (w : World) (hr : Rd w w.heap.size v l.length (rcells l)) (hl : l.length ≤ 9223372036854775807) (hsm : small l) :
    Calls Try.prog 99 #[v, .int .i64 a] w fun e w' => e = .returned (.int .i64 (rowIx a l 0)) ∧ Below w.heap.size w w' := by
  obtain ⟨A, c, rfl, hn, hc, hcell⟩ := id hr
  have Hr := hide hr; clear hr hcell
  have Hsm := hide hsm; clear hsm
  go_enter Try.func99, Try.ntmps99
  go_wp2
  go_loopw [9] (fun i wr => ∃ k : Nat, k ≤ l.length ∧ i = .int .i64 k ∧ rowIx a (l.drop k) k = rowIx a l 0 ∧ Below w.heap.size w wr) (fun i _ => l.length - (intOf i).toNat)
  case atStart => exact ⟨0, by omega, rfl, rfl, Below.refl _ _⟩
  case round =>
    obtain ⟨k, hk, rfl, hix, hb⟩ := hrel
    by_cases hlt : k < l.length
    · obtain ⟨g0, g1, g2⟩ := rcells_get l k hlt
      obtain ⟨b, o, rfl, hbB, s0⟩ := Hr.out.at3 g0
      obtain ⟨_, _, e, _, s1⟩ := Hr.out.at3 g1
      cases e
      obtain ⟨_, _, e, _, s2⟩ := Hr.out.at3 g2
      cases e
      have hs0 := (hb.cell (p := ⟨b, o + k * 3, none⟩) hbB).trans s0
      have hs1 := (hb.cell (p := ⟨b, o + (k * 3 + 1), none⟩) hbB).trans s1
      have hs2 := (hb.cell (p := ⟨b, o + (k * 3 + 2), none⟩) hbB).trans s2
      rw [← Nat.add_assoc] at hs1 hs2
      obtain ⟨z1, z2, z3, z4, _, _⟩ := Hsm.out l[k] (List.getElem_mem hlt)
      have hy := fun h => rowIx_yes (a := a) hlt h
      have hn := fun h => rowIx_no (a := a) hlt h
      rw [hix] at hy hn
      have Hb := hide hb
      clear hb s0 s1 s2 g0 g1 g2 Hr hix
      generalize l[k] = r at *
      by_cases hh : hit a r
      · have Hy := hide (hy hh); clear hy hn
        obtain ⟨h1, h2⟩ := hit_lt hh
        clear hh
        go_wp2
        go_ret
        exact ⟨retI Hy.out.symm, Hb.out.alloc Hb.out.size _⟩
      · have Hn := hide (hn hh); clear hy hn
        have hno := hit_no hh
        by_cases h1 : r.f ≤ a
        · have h2 := hno h1
          clear hno hh
          go_wp2
          go_roundw
          case rel => exact ⟨k + 1, by omega, by go_num, Hn.out.symm, Hb.out.alloc Hb.out.size _⟩
          case measure => simp [intOf]; omega
        · clear hno hh
          go_wp2
          go_roundw
          case rel => exact ⟨k + 1, by omega, by go_num, Hn.out.symm, Hb.out.alloc Hb.out.size _⟩
          case measure => simp [intOf]; omega
    · obtain rfl : k = l.length := by omega
      rw [rowIx_end] at hix
      have Hix := hide hix; clear hix
      go_wp2
      go_ret
      exact ⟨retI Hix.out, hb⟩
theorem padFor_no1 {l : List R3} {many a : Int} (h : goodRows l many = false) : padFor l many a = (0, false) := by unfold padFor; rw [if_neg (by rw [h]; simp)]
theorem padFor_no2 {l : List R3} {many a : Int} (h : ¬ (0 ≤ a ∧ a ≤ many - 1)) : padFor l many a = (0, false) := by unfold padFor; rw [if_neg (fun x => h x.2.1)]
theorem padFor_no3 {l : List R3} {many a : Int} (h : rowIx a l 0 = -1) : padFor l many a = (0, false) := by unfold padFor; rw [if_neg (fun x => by have := x.2.2; omega)]
theorem padFor_yes {l : List R3} {many a : Int} {k : Nat} (h : goodRows l many = true) (h2 : 0 ≤ a ∧ a ≤ many - 1) (h3 : rowIx a l 0 = k) (hk : k < l.length) : padFor l many a = (l[k].p, true) := by
  unfold padFor; rw [if_pos ⟨h, h2, by omega⟩, h3]; simp [hk]
theorem retIBp {p : Int × Bool} {a : Int} {b : Bool} (h : p = (a, b)) : Ending.returned (.tuple #[.int .i64 a, .bool b]) = .returned (.tuple #[.int .i64 p.1, .bool p.2]) := by rw [h]

set_option maxHeartbeats 1600000 in
theorem spec_PadFor (v : Value) (l : List R3) (many a : Int) (w : World) (hr : Rd w w.heap.size v l.length (rcells l)) (hl : l.length ≤ 9223372036854775807) (hm1 : -9223372036854775808 ≤ many) (hm2 : many ≤ 9223372036854775807) :
    Calls Try.prog 54 #[v, .int .i64 many, .int .i64 a] w fun e w' => e = .returned (.tuple #[.int .i64 (padFor l many a).1, .bool (padFor l many a).2]) ∧ Below w.heap.size w w' := by
  obtain ⟨A, c, rfl, hn, hc, hcell⟩ := id hr
  have hgood := fun w h => spec_l7Good (.slice A l.length c) l many w h hl
  have Hr := hide hr; clear hr hcell
  cases hg : goodRows l many
  · have Hp := hide (padFor_no1 (a := a) hg)
    rw [hg] at hgood
    have Hgood := hide hgood; clear hgood hg
    go_enter Try.func54, Try.ntmps54
    go_wp2_with (go_at_call 97; refine (Hgood.out _ Hr.out).mono ?_; rintro e w1 ⟨rfl, hb1⟩)
    go_ret2
    exact ⟨retIBp Hp.out, hb1⟩
  · obtain ⟨hsm, g1, g2, g3⟩ := small_of_good hg
    have hpy := fun k h2 h3 hk => padFor_yes (a := a) (k := k) hg h2 h3 hk
    rw [hg] at hgood
    have Hgood := hide hgood; have Hsm := hide hsm; clear hgood hg hsm
    by_cases b1 : 0 ≤ a <;> by_cases b2 : a ≤ many - 1
    · rcases rowIx_bd a l 0 with hx | ⟨hx1, hx2⟩
      · have Hp := hide (padFor_no3 (many := many) hx)
        have hrow := fun w h => spec_l5RowAt (.slice A l.length c) l a w h hl Hsm.out
        rw [hx] at hrow
        have Hrow := hide hrow; clear hrow hx hpy
        go_enter Try.func54, Try.ntmps54
        go_wp2_with (first
          | (go_at_call 81; go_in)
          | (go_at_call 97; refine (Hgood.out _ Hr.out).mono ?_; rintro e w1 ⟨rfl, hb1⟩)
          | (go_at_call 99; refine (Hrow.out _ (Hr.out.go' hb1)).mono ?_; rintro e w2 ⟨rfl, hb2⟩))
        go_ret2
        exact ⟨retIBp Hp.out, hb1.trans (hb2.mono hb1.size)⟩
      · obtain ⟨k, hk⟩ := Int.eq_ofNat_of_zero_le (show 0 ≤ rowIx a l 0 by omega)
        have hkl : k < l.length := by omega
        have Hp := hide (hpy k ⟨b1, b2⟩ hk hkl)
        have hrow := fun w h => spec_l5RowAt (.slice A l.length c) l a w h hl Hsm.out
        rw [hk] at hrow
        have Hrow := hide hrow; clear hrow hpy hk hx1 hx2
        go_enter Try.func54, Try.ntmps54
        go_wp2_with fail
        refine (Hgood.out _ Hr.out).mono ?_
        rintro e w1 ⟨rfl, hb1⟩
        go_wp2_with (go_at_call 81; go_in)
        refine (Hrow.out _ (Hr.out.go' hb1)).mono ?_
        rintro e w2 ⟨rfl, hb2⟩
        have HB2 := hide (hb1.trans (hb2.mono hb1.size))
        clear hb1 hb2
        go_wp2_with fail
        refine (Hrow.out _ (Hr.out.go' HB2.out)).mono ?_
        rintro e w3 ⟨rfl, hb3⟩
        have HB3 := hide (HB2.out.trans (hb3.mono HB2.out.size))
        obtain ⟨_, _, g2⟩ := rcells_get l k hkl
        obtain ⟨b, o, rfl, hbB, s2⟩ := Hr.out.at3 g2
        have hs2 := (HB3.out.cell (p := ⟨b, o + (k * 3 + 2), none⟩) hbB).trans s2
        rw [← Nat.add_assoc] at hs2
        clear s2 g2 hb3 Hrow Hr Hgood
        generalize l[k] = r at *
        go_wp2
        go_ret2
        exact ⟨retIBp Hp.out, HB3.out⟩
    all_goals first
      | (exfalso; omega)
      | (have Hp := hide (padFor_no2 (l := l) (many := many) (a := a) (by omega))
         clear hpy
         go_enter Try.func54, Try.ntmps54
         go_wp2_with (first
           | (go_at_call 81; go_in)
           | (go_at_call 97; refine (Hgood.out _ Hr.out).mono ?_; rintro e w1 ⟨rfl, hb1⟩))
         go_ret2
         exact ⟨retIBp Hp.out, hb1⟩)
set_option maxHeartbeats 1600000 in
theorem impl_PadFor (v : Value) (l : List R3) (many a : Int) (w : World) (hr : Rd w w.heap.size v l.length (rcells l)) (hl : l.length ≤ 9223372036854775807) (hm1 : -9223372036854775808 ≤ many) (hm2 : many ≤ 9223372036854775807) :
    Calls Try.prog 52 #[v, .int .i64 many, .int .i64 a] w fun e w' => e = .returned (.tuple #[.int .i64 (padFor l many a).1, .bool (padFor l many a).2]) ∧ Below w.heap.size w w' := by
  obtain ⟨A, c, rfl, hn, hc, hcell⟩ := id hr
  have hgood := fun w h => impl_GoodRows (.slice A l.length c) l many w h hl
  have Hr := hide hr; clear hr hcell
  cases hg : goodRows l many
  · have Hp := hide (padFor_no1 (a := a) hg)
    rw [hg] at hgood
    have Hgood := hide hgood; clear hgood hg
    go_enter Try.func52, Try.ntmps52
    go_wp2_with (go_at_call 50; refine (Hgood.out _ Hr.out).mono ?_; rintro e w1 ⟨rfl, hb1⟩)
    go_ret2
    exact ⟨retIBp Hp.out, hb1⟩
  · obtain ⟨hsm, g1, g2, g3⟩ := small_of_good hg
    have hpy := fun k h2 h3 hk => padFor_yes (a := a) (k := k) hg h2 h3 hk
    rw [hg] at hgood
    have Hgood := hide hgood; have Hsm := hide hsm; clear hgood hg hsm
    by_cases b1 : 0 ≤ a <;> by_cases b2 : a ≤ many - 1
    · rcases rowIx_bd a l 0 with hx | ⟨hx1, hx2⟩
      · have Hp := hide (padFor_no3 (many := many) hx)
        have hrow := fun w h => impl_rowOf (.slice A l.length c) l a w h hl
        rw [hx] at hrow
        have Hrow := hide hrow; clear hrow hx hpy
        go_enter Try.func52, Try.ntmps52
        go_wp2_with (first
          | (go_at_call 79; go_in)
          | (go_at_call 50; refine (Hgood.out _ Hr.out).mono ?_; rintro e w1 ⟨rfl, hb1⟩)
          | (go_at_call 98; refine (Hrow.out _ (Hr.out.go' hb1)).mono ?_; rintro e w2 ⟨rfl, hb2⟩))
        go_ret2
        exact ⟨retIBp Hp.out, hb1.trans (hb2.mono hb1.size)⟩
      · obtain ⟨k, hk⟩ := Int.eq_ofNat_of_zero_le (show 0 ≤ rowIx a l 0 by omega)
        have hkl : k < l.length := by omega
        have Hp := hide (hpy k ⟨b1, b2⟩ hk hkl)
        have hrow := fun w h => impl_rowOf (.slice A l.length c) l a w h hl
        rw [hk] at hrow
        have Hrow := hide hrow; clear hrow hpy hk hx1 hx2
        go_enter Try.func52, Try.ntmps52
        go_wp2_with fail
        refine (Hgood.out _ Hr.out).mono ?_
        rintro e w1 ⟨rfl, hb1⟩
        go_wp2_with (go_at_call 79; go_in)
        refine (Hrow.out _ (Hr.out.go' hb1)).mono ?_
        rintro e w2 ⟨rfl, hb2⟩
        have HB2 := hide (hb1.trans (hb2.mono hb1.size))
        clear hb1 hb2
        go_wp2_with fail
        refine (Hrow.out _ (Hr.out.go' HB2.out)).mono ?_
        rintro e w3 ⟨rfl, hb3⟩
        have HB3 := hide (HB2.out.trans (hb3.mono HB2.out.size))
        obtain ⟨_, _, g2⟩ := rcells_get l k hkl
        obtain ⟨b, o, rfl, hbB, s2⟩ := Hr.out.at3 g2
        have hs2 := (HB3.out.cell (p := ⟨b, o + (k * 3 + 2), none⟩) hbB).trans s2
        rw [← Nat.add_assoc] at hs2
        clear s2 g2 hb3 Hrow Hr Hgood
        generalize l[k] = r at *
        go_wp2
        go_ret2
        exact ⟨retIBp Hp.out, HB3.out⟩
    all_goals first
      | (exfalso; omega)
      | (have Hp := hide (padFor_no2 (l := l) (many := many) (a := a) (by omega))
         clear hpy
         go_enter Try.func52, Try.ntmps52
         go_wp2_with (first
           | (go_at_call 79; go_in)
           | (go_at_call 50; refine (Hgood.out _ Hr.out).mono ?_; rintro e w1 ⟨rfl, hb1⟩))
         go_ret2
         exact ⟨retIBp Hp.out, hb1⟩)
end Go.Proofs.Ytheddnjhkcpmnaa
