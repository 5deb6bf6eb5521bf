
/- GoodRows: what the Go text returns. No condition. -/
import Derived.Test.YtheddnjhkcpmnaaNst
set_option linter.unusedSimpArgs false
set_option linter.unusedVariables false
namespace Go.Proofs.Ytheddnjhkcpmnaa

def rowOk (a many : Int) (r : R3) : Prop := a ≤ r.f ∧ r.f < r.t ∧ r.t ≤ many ∧ 0 ≤ r.p ∧ r.p ≤ many - 1
instance (a many : Int) (r : R3) : Decidable (rowOk a many r) := by unfold rowOk; infer_instance
def rowsOk (many : Int) : Int → List R3 → Bool
  | _, [] => true
  | a, r :: l => if rowOk a many r then rowsOk many r.t l else false
theorem rowsOk_yes {many a : Int} {l : List R3} {k : Nat} (h : k < l.length) (hr : rowOk a many l[k]) : rowsOk many a (l.drop k) = rowsOk many l[k].t (l.drop (k + 1)) := by
  rw [List.drop_eq_getElem_cons h]; simp [rowsOk, hr]
theorem rowsOk_no {many a : Int} {l : List R3} {k : Nat} (h : k < l.length) (hr : ¬ rowOk a many l[k]) : rowsOk many a (l.drop k) = false := by
  rw [List.drop_eq_getElem_cons h]; simp [rowsOk, hr]
def goodRows (l : List R3) (many : Int) : Bool := decide (1 ≤ many ∧ many ≤ 300) && (decide (l.length ≤ 300) && rowsOk many 0 l)
/-- rows that are good are no more than there are places -/
theorem rowsOk_few (many : Int) : ∀ (l : List R3) (a : Int), rowsOk many a l = true → l ≠ [] → a + l.length ≤ many := by
  intro l
  induction l with
  | nil => intro a _ h; exact absurd rfl h
  | cons r l ih =>
    intro a h _
    simp only [rowsOk] at h
    by_cases hr : rowOk a many r
    · rw [if_pos hr] at h
      obtain ⟨h1, h2, h3, h4, h5⟩ := hr
      cases l with
      | nil => simp; omega
      | cons x l => have := ih r.t h (by simp); simp at this ⊢; omega
    · rw [if_neg hr] at h; cases h
theorem goodRows_eq (l : List R3) (many : Int) : goodRows l many = (decide (1 ≤ many ∧ many ≤ 300) && rowsOk many 0 l) := by
  unfold goodRows
  by_cases h : 1 ≤ many ∧ many ≤ 300
  · by_cases h2 : rowsOk many 0 l = true
    · have : l.length ≤ 300 := by
        by_cases h3 : l = []
        · subst h3; simp
        · have := rowsOk_few many l 0 h2 h3; omega
      simp [h, h2, this]
    · simp [h, h2]
  · simp [h]

theorem good_no1 {l : List R3} {many : Int} (h : ¬ (1 ≤ many ∧ many ≤ 300)) : false = goodRows l many := by
  unfold goodRows; rw [decide_eq_false h]; rfl
theorem good_no2 {l : List R3} {many : Int} (h : ¬ l.length ≤ 300) : false = goodRows l many := by
  unfold goodRows; rw [decide_eq_false h]; simp
theorem good_yes {l : List R3} {many : Int} (h : 1 ≤ many) (h2 : many ≤ 300) : rowsOk many 0 l = goodRows l many := by
  rw [goodRows_eq, decide_eq_true ⟨h, h2⟩]; rfl
end Go.Proofs.Ytheddnjhkcpmnaa
set_option linter.unusedSimpArgs false
set_option linter.unusedVariables false
namespace Go.Proofs.Ytheddnjhkcpmnaa

def hit (a : Int) (r : R3) : Prop := r.f ≤ a ∧ a < r.t
instance (a : Int) (r : R3) : Decidable (hit a r) := by unfold hit; infer_instance
def rowIx (a : Int) : List R3 → Nat → Int
  | [], _ => -1
  | r :: l, i => if hit a r then i else rowIx a l (i + 1)
theorem rowIx_yes {a : Int} {l : List R3} {k : Nat} (h : k < l.length) (hr : hit a l[k]) : rowIx a (l.drop k) k = k := by
  rw [List.drop_eq_getElem_cons h]; simp [rowIx, hr]
theorem rowIx_no {a : Int} {l : List R3} {k : Nat} (h : k < l.length) (hr : ¬ hit a l[k]) : rowIx a (l.drop k) k = rowIx a (l.drop (k + 1)) (k + 1) := by
  rw [List.drop_eq_getElem_cons h]; simp [rowIx, hr]
theorem rowIx_end {a : Int} {l : List R3} : rowIx a (l.drop l.length) l.length = -1 := by rw [List.drop_length]; rfl
theorem rowIx_bd (a : Int) : ∀ (l : List R3) (i : Nat), rowIx a l i = -1 ∨ ((i : Int) ≤ rowIx a l i ∧ rowIx a l i < i + l.length) := by
  intro l
  induction l with
  | nil => intro i; exact .inl rfl
  | cons r l ih =>
    intro i
    simp only [rowIx]
    split
    · right; simp; omega
    · rcases ih (i + 1) with h | ⟨h1, h2⟩
      · exact .inl h
      · right; simp at *; omega
/-- rows that are good lie within bounds -/
def small (l : List R3) : Prop := ∀ r ∈ l, 0 ≤ r.f ∧ r.f ≤ 300 ∧ 0 ≤ r.t ∧ r.t ≤ 300 ∧ 0 ≤ r.p ∧ r.p ≤ 300
theorem small_of_rows (many : Int) (hm : many ≤ 300) : ∀ (l : List R3) (a : Int), 0 ≤ a → rowsOk many a l = true → small l := by
  intro l
  induction l with
  | nil => intro a _ _ r hr; simp at hr
  | cons x l ih =>
    intro a ha h
    simp only [rowsOk] at h
    by_cases hr : rowOk a many x
    · rw [if_pos hr] at h
      obtain ⟨h1, h2, h3, h4, h5⟩ := hr
      intro r hrm
      rcases List.mem_cons.1 hrm with rfl | hrm
      · exact ⟨by omega, by omega, by omega, by omega, by omega, by omega⟩
      · exact ih x.t (by omega) h r hrm
    · rw [if_neg hr] at h; cases h
theorem small_of_good {l : List R3} {many : Int} (h : goodRows l many = true) : small l ∧ 1 ≤ many ∧ many ≤ 300 ∧ l.length ≤ 300 := by
  unfold goodRows at h
  simp at h
  exact ⟨small_of_rows many (by omega) l 0 (by omega) h.2.2, h.1.1, h.1.2, h.2.1⟩
/-- PadFor's answer -/
def padFor (l : List R3) (many a : Int) : Int × Bool :=
  if goodRows l many = true ∧ (0 ≤ a ∧ a ≤ many - 1) ∧ 0 ≤ rowIx a l 0 then (((l[(rowIx a l 0).toNat]?).map R3.p).getD 0, true) else (0, false)
end Go.Proofs.Ytheddnjhkcpmnaa
set_option linter.unusedSimpArgs false
set_option linter.unusedVariables false
set_option maxRecDepth 100000
namespace Go.Proofs.Ytheddnjhkcpmnaa
open Go.RowKit

set_option maxHeartbeats 800000 in
theorem spec_l5Rows (v : Value) (l : List R3) (many : Int) (w : World) (hr : Rd w w.heap.size v l.length (rcells l)) (hl : l.length ≤ 9223372036854775807) (hm : 1 ≤ many) (hm2 : many ≤ 300) :
    Calls Try.prog 126 #[v, .int .i64 many] w fun e w' => e = .returned (.bool (rowsOk many 0 l)) ∧ Below w.heap.size w w' := by
  obtain ⟨A, c, rfl, hn, hc, hcell⟩ := id hr
  have Hr := hide hr; clear hr hcell
  go_enter Try.func126, Try.ntmps126
  go_wp2
  go_loopw [5, 10] (fun a i wr => ∃ (k : Nat) (x : Int), k ≤ l.length ∧ i = .int .i64 k ∧ a = .int .i64 x ∧ rowsOk many x (l.drop k) = rowsOk many 0 l ∧ Below w.heap.size w wr) (fun _ i _ => l.length - (intOf i).toNat)
  case atStart => exact ⟨0, 0, by omega, rfl, rfl, rfl, Below.refl _ _⟩
  case round =>
    obtain ⟨k, x, hk, rfl, rfl, hok, hb⟩ := hrel
    by_cases hlt : k < l.length
    · obtain ⟨g0, g1, g2⟩ := rcells_get l k hlt
      obtain ⟨b, o, rfl, hbB, s0⟩ := Hr.out.at3 g0
      obtain ⟨_, _, e, _, s1⟩ := Hr.out.at3 g1
      cases e
      obtain ⟨_, _, e, _, s2⟩ := Hr.out.at3 g2
      cases e
      have hs0 := (hb.cell (p := ⟨b, o + k * 3, none⟩) hbB).trans s0
      have hs1 := (hb.cell (p := ⟨b, o + (k * 3 + 1), none⟩) hbB).trans s1
      have hs2 := (hb.cell (p := ⟨b, o + (k * 3 + 2), none⟩) hbB).trans s2
      rw [← Nat.add_assoc] at hs1 hs2
      have hy := fun h => rowsOk_yes (many := many) (a := x) hlt h
      have hn := fun h => rowsOk_no (many := many) (a := x) hlt h
      rw [hok] at hy hn
      have Hy := hide hy; have Hn := hide hn
      have Hb := hide hb; clear hb s0 s1 s2 g0 g1 g2 Hr hok hy hn
      generalize l[k] = r at *
      by_cases g : rowOk x many r
      · have Hy := hide (Hy.out g); clear Hn
        obtain ⟨q1, q2, q3, q4, q5⟩ := g
        go_wp2
        go_roundw
        case rel => exact ⟨k + 1, r.t, by omega, by go_num, rfl, Hy.out.symm, Hb.out.alloc Hb.out.size _⟩
        case measure => simp [intOf]; omega
      · have Hn := hide (Hn.out g); clear Hy
        have Hg := hide g; clear g
        go_wp2
        all_goals first
          | (go_ret; exact ⟨retB (by rw [Hn.out]), Hb.out.alloc Hb.out.size _⟩)
          | (exfalso
             go_light
             have := Hg.out
             unfold rowOk at this
             simp at *
             omega)
    · obtain rfl : k = l.length := by omega
      rw [List.drop_length] at hok
      have Hok := hide hok; clear hok
      go_wp2
      go_ret
      exact ⟨retB (by rw [← Hok.out]; rfl), hb⟩
set_option maxHeartbeats 800000 in
theorem impl_areRows (v : Value) (l : List R3) (many : Int) (w : World) (hr : Rd w w.heap.size v l.length (rcells l)) (hl : l.length ≤ 9223372036854775807) (hm : 1 ≤ many) (hm2 : many ≤ 300) :
    Calls Try.prog 100 #[v, .int .i64 many] w fun e w' => e = .returned (.bool (rowsOk many 0 l)) ∧ Below w.heap.size w w' := by
  obtain ⟨A, c, rfl, hn, hc, hcell⟩ := id hr
  have Hr := hide hr; clear hr hcell
  go_enter Try.func100, Try.ntmps100
  go_wp2
  go_loopw [5, 10] (fun a i wr => ∃ (k : Nat) (x : Int), k ≤ l.length ∧ i = .int .i64 k ∧ a = .int .i64 x ∧ rowsOk many x (l.drop k) = rowsOk many 0 l ∧ Below w.heap.size w wr) (fun _ i _ => l.length - (intOf i).toNat)
  case atStart => exact ⟨0, 0, by omega, rfl, rfl, rfl, Below.refl _ _⟩
  case round =>
    obtain ⟨k, x, hk, rfl, rfl, hok, hb⟩ := hrel
    by_cases hlt : k < l.length
    · obtain ⟨g0, g1, g2⟩ := rcells_get l k hlt
      obtain ⟨b, o, rfl, hbB, s0⟩ := Hr.out.at3 g0
      obtain ⟨_, _, e, _, s1⟩ := Hr.out.at3 g1
      cases e
      obtain ⟨_, _, e, _, s2⟩ := Hr.out.at3 g2
      cases e
      have hs0 := (hb.cell (p := ⟨b, o + k * 3, none⟩) hbB).trans s0
      have hs1 := (hb.cell (p := ⟨b, o + (k * 3 + 1), none⟩) hbB).trans s1
      have hs2 := (hb.cell (p := ⟨b, o + (k * 3 + 2), none⟩) hbB).trans s2
      rw [← Nat.add_assoc] at hs1 hs2
      have hy := fun h => rowsOk_yes (many := many) (a := x) hlt h
      have hn := fun h => rowsOk_no (many := many) (a := x) hlt h
      rw [hok] at hy hn
      have Hy := hide hy; have Hn := hide hn
      have Hb := hide hb; clear hb s0 s1 s2 g0 g1 g2 Hr hok hy hn
      generalize l[k] = r at *
      by_cases g : rowOk x many r
      · have Hy := hide (Hy.out g); clear Hn
        obtain ⟨q1, q2, q3, q4, q5⟩ := g
        go_wp2
        go_roundw
        case rel => exact ⟨k + 1, r.t, by omega, by go_num, rfl, Hy.out.symm, Hb.out.alloc Hb.out.size _⟩
        case measure => simp [intOf]; omega
      · have Hn := hide (Hn.out g); clear Hy
        have Hg := hide g; clear g
        go_wp2
        all_goals first
          | (go_ret; exact ⟨retB (by rw [Hn.out]), Hb.out.alloc Hb.out.size _⟩)
          | (exfalso
             go_light
             have := Hg.out
             unfold rowOk at this
             simp at *
             omega)
    · obtain rfl : k = l.length := by omega
      rw [List.drop_length] at hok
      have Hok := hide hok; clear hok
      go_wp2
      go_ret
      exact ⟨retB (by rw [← Hok.out]; rfl), hb⟩

theorem spec_l7Good (v : Value) (l : List R3) (many : Int) (w : World) (hr : Rd w w.heap.size v l.length (rcells l)) (hl : l.length ≤ 9223372036854775807) :
    Calls Try.prog 97 #[v, .int .i64 many] w fun e w' => e = .returned (.bool (goodRows l many)) ∧ Below w.heap.size w w' := by
  obtain ⟨A, c, rfl, hn, hc, hcell⟩ := id hr
  have Hr := hide hr; clear hr hcell
  by_cases g1 : 1 ≤ many <;> by_cases g2 : many ≤ 300 <;> by_cases g3 : l.length ≤ 300
  all_goals
    go_enter Try.func97, Try.ntmps97
    go_wp2_with (first | (go_at_call 81; go_in) | (go_at_call 126; refine (spec_l5Rows _ l many _ Hr.out hl g1 g2).mono ?_; rintro e w1 ⟨rfl, hb1⟩))
    go_ret
    first
      | exact ⟨retB (good_yes g1 g2), hb1⟩
      | exact ⟨retB (good_no1 (by omega)), Below.refl _ _⟩
      | exact ⟨retB (good_no1 (by omega)), Below.refl _ _⟩
      | exact ⟨retB (good_no2 (by omega)), Below.refl _ _⟩
theorem spec_GoodRows (v : Value) (l : List R3) (many : Int) (w : World) (hr : Rd w w.heap.size v l.length (rcells l)) (hl : l.length ≤ 9223372036854775807) :
    Calls Try.prog 51 #[v, .int .i64 many] w fun e w' => e = .returned (.bool (goodRows l many)) ∧ Below w.heap.size w w' := by
  go_enter Try.func51, Try.ntmps51
  go_wp2_with (go_at_call 97; refine (spec_l7Good v l many _ hr hl).mono ?_; rintro e w1 ⟨rfl, hb1⟩)
  go_ret
  exact ⟨rfl, hb1⟩
theorem impl_GoodRows (v : Value) (l : List R3) (many : Int) (w : World) (hr : Rd w w.heap.size v l.length (rcells l)) (hl : l.length ≤ 9223372036854775807) :
    Calls Try.prog 50 #[v, .int .i64 many] w fun e w' => e = .returned (.bool (goodRows l many)) ∧ Below w.heap.size w w' := by
  obtain ⟨A, c, rfl, hn, hc, hcell⟩ := id hr
  have Hr := hide hr; clear hr hcell
  by_cases g1 : 1 ≤ many <;> by_cases g2 : many ≤ 300
  all_goals
    go_enter Try.func50, Try.ntmps50
    go_wp2_with (first | (go_at_call 79; go_in) | (go_at_call 100; refine (impl_areRows _ l many _ Hr.out hl g1 g2).mono ?_; rintro e w1 ⟨rfl, hb1⟩))
    go_ret
    first
      | exact ⟨retB (good_yes g1 g2), hb1⟩
      | exact ⟨retB (good_no1 (by omega)), Below.refl _ _⟩
      | exact ⟨retB (good_no1 (by omega)), Below.refl _ _⟩
end Go.Proofs.Ytheddnjhkcpmnaa
