
/- GoodRows: what the Go text returns. No condition. -/
import Derived.Test.YtgkjakoagdkpcaaGreatDoorNst
import Derived.Test.YtgkjakoagdkpcaaGreatDoorBlk
set_option linter.unusedSimpArgs false
set_option linter.unusedVariables false
namespace Go.Proofs.YtgkjakoagdkpcaaGreatDoor

def rowOk (a many : Int) (r : R3) : Prop := a ≤ r.f ∧ r.f < r.t ∧ r.t ≤ many ∧ 0 ≤ r.p ∧ r.p ≤ many - 1
instance (a many : Int) (r : R3) : Decidable (rowOk a many r) := by unfold rowOk; infer_instance
def rowsOk (many : Int) : Int → List R3 → Bool
  | _, [] => true
  | a, r :: l => if rowOk a many r then rowsOk many r.t l else false
theorem rowsOk_yes {many a : Int} {l : List R3} {k : Nat} (h : k < l.length) (hr : rowOk a many l[k]) : rowsOk many a (l.drop k) = rowsOk many l[k].t (l.drop (k + 1)) := by
  rw [List.drop_eq_getElem_cons h]; simp [rowsOk, hr]
theorem rowsOk_no {many a : Int} {l : List R3} {k : Nat} (h : k < l.length) (hr : ¬ rowOk a many l[k]) : rowsOk many a (l.drop k) = false := by
  rw [List.drop_eq_getElem_cons h]; simp [rowsOk, hr]
def goodRows (l : List R3) (many : Int) : Bool := decide (1 ≤ many ∧ many ≤ 300) && (decide (l.length ≤ 300) && rowsOk many 0 l)
/-- rows that are good are no more than there are places -/
theorem rowsOk_few (many : Int) : ∀ (l : List R3) (a : Int), rowsOk many a l = true → l ≠ [] → a + l.length ≤ many := by
  intro l
  induction l with
  | nil => intro a _ h; exact absurd rfl h
  | cons r l ih =>
    intro a h _
    simp only [rowsOk] at h
    by_cases hr : rowOk a many r
    · rw [if_pos hr] at h
      obtain ⟨h1, h2, h3, h4, h5⟩ := hr
      cases l with
      | nil => simp; omega
      | cons x l => have := ih r.t h (by simp); simp at this ⊢; omega
    · rw [if_neg hr] at h; cases h
theorem goodRows_eq (l : List R3) (many : Int) : goodRows l many = (decide (1 ≤ many ∧ many ≤ 300) && rowsOk many 0 l) := by
  unfold goodRows
  by_cases h : 1 ≤ many ∧ many ≤ 300
  · by_cases h2 : rowsOk many 0 l = true
    · have : l.length ≤ 300 := by
        by_cases h3 : l = []
        · subst h3; simp
        · have := rowsOk_few many l 0 h2 h3; omega
      simp [h, h2, this]
    · simp [h, h2]
  · simp [h]

theorem good_no1 {l : List R3} {many : Int} (h : ¬ (1 ≤ many ∧ many ≤ 300)) : false = goodRows l many := by
  unfold goodRows; rw [decide_eq_false h]; rfl
theorem good_no2 {l : List R3} {many : Int} (h : ¬ l.length ≤ 300) : false = goodRows l many := by
  unfold goodRows; rw [decide_eq_false h]; simp
theorem good_yes {l : List R3} {many : Int} (h : 1 ≤ many) (h2 : many ≤ 300) : rowsOk many 0 l = goodRows l many := by
  rw [goodRows_eq, decide_eq_true ⟨h, h2⟩]; rfl
end Go.Proofs.YtgkjakoagdkpcaaGreatDoor
set_option linter.unusedSimpArgs false
set_option linter.unusedVariables false
namespace Go.Proofs.YtgkjakoagdkpcaaGreatDoor

def hit (a : Int) (r : R3) : Prop := r.f ≤ a ∧ a < r.t
instance (a : Int) (r : R3) : Decidable (hit a r) := by unfold hit; infer_instance
def rowIx (a : Int) : List R3 → Nat → Int
  | [], _ => -1
  | r :: l, i => if hit a r then i else rowIx a l (i + 1)
theorem rowIx_yes {a : Int} {l : List R3} {k : Nat} (h : k < l.length) (hr : hit a l[k]) : rowIx a (l.drop k) k = k := by
  rw [List.drop_eq_getElem_cons h]; simp [rowIx, hr]
theorem rowIx_no {a : Int} {l : List R3} {k : Nat} (h : k < l.length) (hr : ¬ hit a l[k]) : rowIx a (l.drop k) k = rowIx a (l.drop (k + 1)) (k + 1) := by
  rw [List.drop_eq_getElem_cons h]; simp [rowIx, hr]
theorem rowIx_end {a : Int} {l : List R3} : rowIx a (l.drop l.length) l.length = -1 := by rw [List.drop_length]; rfl
theorem rowIx_bd (a : Int) : ∀ (l : List R3) (i : Nat), rowIx a l i = -1 ∨ ((i : Int) ≤ rowIx a l i ∧ rowIx a l i < i + l.length) := by
  intro l
  induction l with
  | nil => intro i; exact .inl rfl
  | cons r l ih =>
    intro i
    simp only [rowIx]
    split
    · right; simp; omega
    · rcases ih (i + 1) with h | ⟨h1, h2⟩
      · exact .inl h
      · right; simp at *; omega
/-- rows that are good lie within bounds -/
def small (l : List R3) : Prop := ∀ r ∈ l, 0 ≤ r.f ∧ r.f ≤ 300 ∧ 0 ≤ r.t ∧ r.t ≤ 300 ∧ 0 ≤ r.p ∧ r.p ≤ 300
theorem small_of_rows (many : Int) (hm : many ≤ 300) : ∀ (l : List R3) (a : Int), 0 ≤ a → rowsOk many a l = true → small l := by
  intro l
  induction l with
  | nil => intro a _ _ r hr; simp at hr
  | cons x l ih =>
    intro a ha h
    simp only [rowsOk] at h
    by_cases hr : rowOk a many x
    · rw [if_pos hr] at h
      obtain ⟨h1, h2, h3, h4, h5⟩ := hr
      intro r hrm
      rcases List.mem_cons.1 hrm with rfl | hrm
      · exact ⟨by omega, by omega, by omega, by omega, by omega, by omega⟩
      · exact ih x.t (by omega) h r hrm
    · rw [if_neg hr] at h; cases h
theorem small_of_good {l : List R3} {many : Int} (h : goodRows l many = true) : small l ∧ 1 ≤ many ∧ many ≤ 300 ∧ l.length ≤ 300 := by
  unfold goodRows at h
  simp at h
  exact ⟨small_of_rows many (by omega) l 0 (by omega) h.2.2, h.1.1, h.1.2, h.2.1⟩
/-- PadFor's answer -/
def padFor (l : List R3) (many a : Int) : Int × Bool :=
  if goodRows l many = true ∧ (0 ≤ a ∧ a ≤ many - 1) ∧ 0 ≤ rowIx a l 0 then (((l[(rowIx a l 0).toNat]?).map R3.p).getD 0, true) else (0, false)
end Go.Proofs.YtgkjakoagdkpcaaGreatDoor
set_option linter.unusedSimpArgs false
set_option linter.unusedVariables false
set_option maxRecDepth 100000
namespace Go.Proofs.YtgkjakoagdkpcaaGreatDoor
open Go.RowKit

set_option maxHeartbeats 800000 in
theorem spec_l5Rows (v : Value) (l : List R3) (many : Int) (w : World) (hr : Rd w w.heap.size v l.length (rcells l)) (hl : l.length ≤ 9223372036854775807) (hm : 1 ≤ many) (hm2 : many ≤ 300) :
    Calls Tryz.prog 59 #[v, .int .i64 many] w fun e w' => e = .returned (.bool (rowsOk many 0 l)) ∧ Below w.heap.size w w' := by
  obtain ⟨A, c, rfl, hn, hc, hcell⟩ := id hr
  have Hr := hide hr; clear hr hcell
  go_enter Tryz.func59, Tryz.ntmps59
  go_wp2
  go_loopw [5, 10] (fun a i wr => ∃ (k : Nat) (x : Int), k ≤ l.length ∧ i = .int .i64 k ∧ a = .int .i64 x ∧ rowsOk many x (l.drop k) = rowsOk many 0 l ∧ Below w.heap.size w wr) (fun _ i _ => l.length - (intOf i).toNat)
  case atStart => exact ⟨0, 0, by omega, rfl, rfl, rfl, Below.refl _ _⟩
  case round =>
    obtain ⟨k, x, hk, rfl, rfl, hok, hb⟩ := hrel
    by_cases hlt : k < l.length
    · obtain ⟨g0, g1, g2⟩ := rcells_get l k hlt
      obtain ⟨b, o, rfl, hbB, s0⟩ := Hr.out.at3 g0
      obtain ⟨_, _, e, _, s1⟩ := Hr.out.at3 g1
      cases e
      obtain ⟨_, _, e, _, s2⟩ := Hr.out.at3 g2
      cases e
      have hs0 := (hb.cell (p := ⟨b, o + k * 3, none⟩) hbB).trans s0
      have hs1 := (hb.cell (p := ⟨b, o + (k * 3 + 1), none⟩) hbB).trans s1
      have hs2 := (hb.cell (p := ⟨b, o + (k * 3 + 2), none⟩) hbB).trans s2
      rw [← Nat.add_assoc] at hs1 hs2
      have hy := fun h => rowsOk_yes (many := many) (a := x) hlt h
      have hn := fun h => rowsOk_no (many := many) (a := x) hlt h
      rw [hok] at hy hn
      have Hy := hide hy; have Hn := hide hn
      have Hb := hide hb; clear hb s0 s1 s2 g0 g1 g2 Hr hok hy hn
      generalize l[k] = r at *
      by_cases g : rowOk x many r
      · have Hy := hide (Hy.out g); clear Hn
        obtain ⟨q1, q2, q3, q4, q5⟩ := g
        go_wp2
        go_roundw
        case rel => exact ⟨k + 1, r.t, by omega, by go_num, rfl, Hy.out.symm, Hb.out.alloc Hb.out.size _⟩
        case measure => simp [intOf]; omega
      · have Hn := hide (Hn.out g); clear Hy
        have Hg := hide g; clear g
        go_wp2
        all_goals first
          | (go_ret; exact ⟨retB (by rw [Hn.out]), Hb.out.alloc Hb.out.size _⟩)
          | (exfalso
             go_light
             have := Hg.out
             unfold rowOk at this
             simp at *
             omega)
    · obtain rfl : k = l.length := by omega
      rw [List.drop_length] at hok
      have Hok := hide hok; clear hok
      go_wp2
      go_ret
      exact ⟨retB (by rw [← Hok.out]; rfl), hb⟩
set_option maxHeartbeats 800000 in
theorem impl_areRows (v : Value) (l : List R3) (many : Int) (w : World) (hr : Rd w w.heap.size v l.length (rcells l)) (hl : l.length ≤ 9223372036854775807) (hm : 1 ≤ many) (hm2 : many ≤ 300) :
    Calls Tryz.prog 52 #[v, .int .i64 many] w fun e w' => e = .returned (.bool (rowsOk many 0 l)) ∧ Below w.heap.size w w' := by
  obtain ⟨A, c, rfl, hn, hc, hcell⟩ := id hr
  have Hr := hide hr; clear hr hcell
  go_enter Tryz.func52, Tryz.ntmps52
  go_wp2
  go_loopw [5, 10] (fun a i wr => ∃ (k : Nat) (x : Int), k ≤ l.length ∧ i = .int .i64 k ∧ a = .int .i64 x ∧ rowsOk many x (l.drop k) = rowsOk many 0 l ∧ Below w.heap.size w wr) (fun _ i _ => l.length - (intOf i).toNat)
  case atStart => exact ⟨0, 0, by omega, rfl, rfl, rfl, Below.refl _ _⟩
  case round =>
    obtain ⟨k, x, hk, rfl, rfl, hok, hb⟩ := hrel
    by_cases hlt : k < l.length
    · obtain ⟨g0, g1, g2⟩ := rcells_get l k hlt
      obtain ⟨b, o, rfl, hbB, s0⟩ := Hr.out.at3 g0
      obtain ⟨_, _, e, _, s1⟩ := Hr.out.at3 g1
      cases e
      obtain ⟨_, _, e, _, s2⟩ := Hr.out.at3 g2
      cases e
      have hs0 := (hb.cell (p := ⟨b, o + k * 3, none⟩) hbB).trans s0
      have hs1 := (hb.cell (p := ⟨b, o + (k * 3 + 1), none⟩) hbB).trans s1
      have hs2 := (hb.cell (p := ⟨b, o + (k * 3 + 2), none⟩) hbB).trans s2
      rw [← Nat.add_assoc] at hs1 hs2
      have hy := fun h => rowsOk_yes (many := many) (a := x) hlt h
      have hn := fun h => rowsOk_no (many := many) (a := x) hlt h
      rw [hok] at hy hn
      have Hy := hide hy; have Hn := hide hn
      have Hb := hide hb; clear hb s0 s1 s2 g0 g1 g2 Hr hok hy hn
      generalize l[k] = r at *
      by_cases g : rowOk x many r
      · have Hy := hide (Hy.out g); clear Hn
        obtain ⟨q1, q2, q3, q4, q5⟩ := g
        go_wp2
        go_roundw
        case rel => exact ⟨k + 1, r.t, by omega, by go_num, rfl, Hy.out.symm, Hb.out.alloc Hb.out.size _⟩
        case measure => simp [intOf]; omega
      · have Hn := hide (Hn.out g); clear Hy
        have Hg := hide g; clear g
        go_wp2
        all_goals first
          | (go_ret; exact ⟨retB (by rw [Hn.out]), Hb.out.alloc Hb.out.size _⟩)
          | (exfalso
             go_light
             have := Hg.out
             unfold rowOk at this
             simp at *
             omega)
    · obtain rfl : k = l.length := by omega
      rw [List.drop_length] at hok
      have Hok := hide hok; clear hok
      go_wp2
      go_ret
      exact ⟨retB (by rw [← Hok.out]; rfl), hb⟩

end Go.Proofs.YtgkjakoagdkpcaaGreatDoor
set_option linter.unusedSimpArgs false
set_option linter.unusedVariables false
set_option maxRecDepth 100000
namespace Go.Proofs.YtgkjakoagdkpcaaGreatDoor
open Go.RowKit

theorem Rd.go' {w w' : World} {n : Nat} {v : Value} {cs : List Value} (h : Rd w w.heap.size v n cs) (hb : Below w.heap.size w w') : Rd w' w'.heap.size v n cs := (h.below hb).more hb.size
theorem rowOf_yes (r : R3) (a : Int) (g : Nat) (w : World) (hc : w.cell? ⟨g, 0, none⟩ = some (.int .i64 a)) (hg : g < w.heap.size) (h : hit a r) :
    Calls Tryz.prog 82 #[.agg #[.int .i64 r.f, .int .i64 r.t, .int .i64 r.p], .pointer (some ⟨g, 0, none⟩)] w fun e w' => e = .returned (.bool true) ∧ Below w.heap.size w w' := by
  obtain ⟨h1, h2⟩ := h
  go_enter Tryz.func82, Tryz.ntmps82
  go_wp2
  go_ret
  exact ⟨rfl, (Below.refl _ _).alloc (Nat.le_refl _) _⟩
theorem rowOf_no (r : R3) (a : Int) (g : Nat) (w : World) (hc : w.cell? ⟨g, 0, none⟩ = some (.int .i64 a)) (hg : g < w.heap.size) (h : ¬ hit a r) :
    Calls Tryz.prog 82 #[.agg #[.int .i64 r.f, .int .i64 r.t, .int .i64 r.p], .pointer (some ⟨g, 0, none⟩)] w fun e w' => e = .returned (.bool false) ∧ Below w.heap.size w w' := by
  unfold hit at h
  by_cases h1 : r.f ≤ a
  · have h2 : ¬ a < r.t := fun h2 => h ⟨h1, h2⟩
    clear h
    have hd : decide (a < r.t) = false := by simp; omega
    go_enter Tryz.func82, Tryz.ntmps82
    go_wp2
    go_ret
    exact ⟨rfl, (Below.refl _ _).alloc (Nat.le_refl _) _⟩
  · clear h
    go_enter Tryz.func82, Tryz.ntmps82
    go_wp2
    go_ret
    exact ⟨rfl, (Below.refl _ _).alloc (Nat.le_refl _) _⟩

set_option maxHeartbeats 800000 in
theorem indexRow (A : Option Addr) (c : Nat) (l : List R3) (a : Int) (g : Nat) (w : World) (hr : Rd w w.heap.size (.slice A l.length c) l.length (rcells l)) (hl : l.length ≤ 9223372036854775807) (hc : w.cell? ⟨g, 0, none⟩ = some (.int .i64 a)) (hg : g < w.heap.size) :
    Calls Tryz.prog 81 #[.slice A l.length c, .func (Fn.func 82) #[] #[.pointer (some ⟨g, 0, none⟩)]] w fun e w' => e = .returned (.int .i64 (rowIx a l 0)) ∧ Below w.heap.size w w' := by
  have Hr := hide hr; clear hr
  have Hc := hide hc; clear hc
  go_enter Tryz.func81, Tryz.ntmps81
  go_wp2
  go_loopw [8] (fun i wr => ∃ k : Nat, k ≤ l.length ∧ i = .int .i64 k ∧ rowIx a (l.drop k) k = rowIx a l 0 ∧ Below w.heap.size w wr) (fun i _ => l.length - (intOf i).toNat)
  case atStart => exact ⟨0, by omega, rfl, rfl, Below.refl _ _⟩
  case round =>
    obtain ⟨k, hk, rfl, hix, hb⟩ := hrel
    by_cases hlt : k < l.length
    · obtain ⟨g0, g1, g2⟩ := rcells_get l k hlt
      obtain ⟨b, o, rfl, hbB, s0⟩ := Hr.out.at3 g0
      obtain ⟨_, _, e, _, s1⟩ := Hr.out.at3 g1
      cases e
      obtain ⟨_, _, e, _, s2⟩ := Hr.out.at3 g2
      cases e
      have hs0 := (hb.cell (p := ⟨b, o + k * 3, none⟩) hbB).trans s0
      have hs1 := (hb.cell (p := ⟨b, o + (k * 3 + 1), none⟩) hbB).trans s1
      have hs2 := (hb.cell (p := ⟨b, o + (k * 3 + 2), none⟩) hbB).trans s2
      rw [← Nat.add_assoc] at hs1 hs2
      have Hcr := hide ((hb.cell (p := ⟨g, 0, none⟩) hg).trans Hc.out)
      have hgr : g < wr.heap.size := Nat.lt_of_lt_of_le hg hb.size
      have hy := fun h => rowIx_yes (a := a) hlt h
      have hn := fun h => rowIx_no (a := a) hlt h
      rw [hix] at hy hn
      have Hb := hide hb
      clear hb s0 s1 s2 g0 g1 g2 Hr Hc hix
      generalize l[k] = r at *
      by_cases hh : hit a r
      · have Hy := hide (hy hh); clear hy hn
        have Hh := hide hh; clear hh
        go_wp2_with fail
        refine (rowOf_yes r a g _ Hcr.out hgr Hh.out).mono ?_
        rintro e w2 ⟨rfl, hb2⟩
        go_wp2
        go_ret
        exact ⟨retI Hy.out.symm, Hb.out.trans (hb2.mono Hb.out.size)⟩
      · have Hn := hide (hn hh); clear hy hn
        have Hh := hide hh; clear hh
        go_wp2_with fail
        refine (rowOf_no r a g _ Hcr.out hgr Hh.out).mono ?_
        rintro e w2 ⟨rfl, hb2⟩
        go_wp2
        go_roundw
        case rel => exact ⟨k + 1, by omega, by go_num, Hn.out.symm, Hb.out.trans (hb2.mono Hb.out.size)⟩
        case measure => simp [intOf]; omega
    · obtain rfl : k = l.length := by omega
      rw [rowIx_end] at hix
      have Hix := hide hix; clear hix
      go_wp2
      go_ret
      exact ⟨retI Hix.out, hb⟩

set_option maxHeartbeats 400000 in
theorem impl_rowOf (v : Value) (l : List R3) (a : Int) (w : World) (hr : Rd w w.heap.size v l.length (rcells l)) (hl : l.length ≤ 9223372036854775807) :
    Calls Tryz.prog 54 #[v, .int .i64 a] w fun e w' => e = .returned (.int .i64 (rowIx a l 0)) ∧ Below w.heap.size w w' := by
  obtain ⟨A, c, rfl, hn, hc, hcell⟩ := id hr
  have hW := (Below.refl w.heap.size w).alloc (Nat.le_refl _) (.cells #[.int .i64 a] 3)
  have hk := Bk.new w 3 #[.int .i64 a]
  have Hr := hide (hr.go' hW); have HW := hide hW; have Hk := hide hk; clear hr hcell hW hk
  go_enter Tryz.func54, Tryz.ntmps54
  go_wp2_with fail
  refine (indexRow A c l a _ _ Hr.out hl (Hk.out.cell 0) Hk.out.lt).mono ?_
  rintro e w2 ⟨rfl, hb2⟩
  go_wp2
  go_ret
  exact ⟨rfl, HW.out.trans (hb2.mono HW.out.size)⟩

theorem hit_lt {a : Int} {r : R3} (h : hit a r) : r.f ≤ a ∧ a ≤ r.t - 1 := by unfold hit at h; omega
theorem hit_no {a : Int} {r : R3} (h : ¬ hit a r) (h1 : r.f ≤ a) : ¬ a ≤ r.t - 1 := by unfold hit at h; omega

set_option maxHeartbeats 800000 in
theorem spec_l5RowAt (v : Value) (l : List R3) (a : Int) (w : World) (hr : Rd w w.heap.size v l.length (rcells l)) (hl : l.length ≤ 9223372036854775807) (hsm : small l) :
    Calls Tryz.prog 60 #[v, .int .i64 a] w fun e w' => e = .returned (.int .i64 (rowIx a l 0)) ∧ Below w.heap.size w w' := by
  obtain ⟨A, c, rfl, hn, hc, hcell⟩ := id hr
  have Hr := hide hr; clear hr hcell
  have Hsm := hide hsm; clear hsm
  go_enter Tryz.func60, Tryz.ntmps60
  go_wp2
  go_loopw [9] (fun i wr => ∃ k : Nat, k ≤ l.length ∧ i = .int .i64 k ∧ rowIx a (l.drop k) k = rowIx a l 0 ∧ Below w.heap.size w wr) (fun i _ => l.length - (intOf i).toNat)
  case atStart => exact ⟨0, by omega, rfl, rfl, Below.refl _ _⟩
  case round =>
    obtain ⟨k, hk, rfl, hix, hb⟩ := hrel
    by_cases hlt : k < l.length
    · obtain ⟨g0, g1, g2⟩ := rcells_get l k hlt
      obtain ⟨b, o, rfl, hbB, s0⟩ := Hr.out.at3 g0
      obtain ⟨_, _, e, _, s1⟩ := Hr.out.at3 g1
      cases e
      obtain ⟨_, _, e, _, s2⟩ := Hr.out.at3 g2
      cases e
      have hs0 := (hb.cell (p := ⟨b, o + k * 3, none⟩) hbB).trans s0
      have hs1 := (hb.cell (p := ⟨b, o + (k * 3 + 1), none⟩) hbB).trans s1
      have hs2 := (hb.cell (p := ⟨b, o + (k * 3 + 2), none⟩) hbB).trans s2
      rw [← Nat.add_assoc] at hs1 hs2
      obtain ⟨z1, z2, z3, z4, _, _⟩ := Hsm.out l[k] (List.getElem_mem hlt)
      have hy := fun h => rowIx_yes (a := a) hlt h
      have hn := fun h => rowIx_no (a := a) hlt h
      rw [hix] at hy hn
      have Hb := hide hb
      clear hb s0 s1 s2 g0 g1 g2 Hr hix
      generalize l[k] = r at *
      by_cases hh : hit a r
      · have Hy := hide (hy hh); clear hy hn
        obtain ⟨h1, h2⟩ := hit_lt hh
        clear hh
        go_wp2
        go_ret
        exact ⟨retI Hy.out.symm, Hb.out.alloc Hb.out.size _⟩
      · have Hn := hide (hn hh); clear hy hn
        have hno := hit_no hh
        by_cases h1 : r.f ≤ a
        · have h2 := hno h1
          clear hno hh
          go_wp2
          go_roundw
          case rel => exact ⟨k + 1, by omega, by go_num, Hn.out.symm, Hb.out.alloc Hb.out.size _⟩
          case measure => simp [intOf]; omega
        · clear hno hh
          go_wp2
          go_roundw
          case rel => exact ⟨k + 1, by omega, by go_num, Hn.out.symm, Hb.out.alloc Hb.out.size _⟩
          case measure => simp [intOf]; omega
    · obtain rfl : k = l.length := by omega
      rw [rowIx_end] at hix
      have Hix := hide hix; clear hix
      go_wp2
      go_ret
      exact ⟨retI Hix.out, hb⟩
theorem padFor_no1 {l : List R3} {many a : Int} (h : goodRows l many = false) : padFor l many a = (0, false) := by unfold padFor; rw [if_neg (by rw [h]; simp)]
theorem padFor_no2 {l : List R3} {many a : Int} (h : ¬ (0 ≤ a ∧ a ≤ many - 1)) : padFor l many a = (0, false) := by unfold padFor; rw [if_neg (fun x => h x.2.1)]
theorem padFor_no3 {l : List R3} {many a : Int} (h : rowIx a l 0 = -1) : padFor l many a = (0, false) := by unfold padFor; rw [if_neg (fun x => by have := x.2.2; omega)]
theorem padFor_yes {l : List R3} {many a : Int} {k : Nat} (h : goodRows l many = true) (h2 : 0 ≤ a ∧ a ≤ many - 1) (h3 : rowIx a l 0 = k) (hk : k < l.length) : padFor l many a = (l[k].p, true) := by
  unfold padFor; rw [if_pos ⟨h, h2, by omega⟩, h3]; simp [hk]
theorem retIBp {p : Int × Bool} {a : Int} {b : Bool} (h : p = (a, b)) : Ending.returned (.tuple #[.int .i64 a, .bool b]) = .returned (.tuple #[.int .i64 p.1, .bool p.2]) := by rw [h]

end Go.Proofs.YtgkjakoagdkpcaaGreatDoor
