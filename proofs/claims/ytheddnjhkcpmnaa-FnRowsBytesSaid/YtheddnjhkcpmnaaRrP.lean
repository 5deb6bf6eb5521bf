
/- Reading rows from bytes: plain Lean. No condition. -/
import Derived.Test.YtheddnjhkcpmnaaGr
import Derived.Test.YtheddnjhkcpmnaaRlP
import Derived.Test.YtheddnjhkcpmnaaRsP
set_option linter.unusedSimpArgs false
set_option linter.unusedVariables false
namespace Go.Proofs.Ytheddnjhkcpmnaa

theorem rdU_any (s : ByteArray) (a : Int) : (rdU s a).1 < 18446744073709551616 ∧ (rdU s a).2.1 ≤ s.size := by
  cases h : (rdU s a).2.2.2 with
  | true => have := rdU_facts s a h; omega
  | false =>
    have : (rdU s a).1 = 0 ∧ (rdU s a).2.1 = 0 := by
      unfold rdU at h ⊢
      repeat' split
      all_goals simp_all
    omega
theorem rdS_any (s : ByteArray) (a : Int) : -9223372036854775808 ≤ (rdS s a).1 ∧ (rdS s a).1 ≤ 9223372036854775807 ∧ (rdS s a).2.1 ≤ s.size := by
  rcases endF_ways s a with ⟨n, m, rfl, hnm, hk, hlt, hz, he, hlow, hall⟩ | hbad
  · have hr := rdS_ok s n m he (by omega) hlt
    have hv := valS_bd s hnm hlt hk
    rw [hr]
    split
    · simp
    · split
      · simp
      · rename_i h1 _
        have := hv h1
        exact ⟨this.1, this.2, hlt⟩
  · have : ∃ c : Nat, c ≠ 0 ∧ endF s.data.toList a = (0, c) := by
      rcases hbad with ⟨h, _⟩ | ⟨h | h, _⟩
      · exact ⟨1, by decide, h⟩
      · exact ⟨2, by decide, h⟩
      · exact ⟨3, by decide, h⟩
    obtain ⟨c, hc, he⟩ := this
    rw [rdS_code s a he hc]
    simp

/-- a row's three numbers from a place on, and the place behind them -/
def tri (s : ByteArray) (a : Nat) : Option (Nat × Nat × Int × Nat) :=
  if (rdU s a).2.2.2 = true then
    if (rdU s (rdU s a).2.1).2.2.2 = true then
      if (rdS s (rdU s (rdU s a).2.1).2.1).2.2.2 = true then
        some ((rdU s a).1, (rdU s (rdU s a).2.1).1, (rdS s (rdU s (rdU s a).2.1).2.1).1, (rdS s (rdU s (rdU s a).2.1).2.1).2.1)
      else none
    else none
  else none
theorem tri_no1 {s : ByteArray} {a : Nat} (h : (rdU s a).2.2.2 = false) : tri s a = none := by unfold tri; rw [h]; rfl
theorem tri_no2 {s : ByteArray} {a b : Nat} (e : (rdU s a).2.1 = b) (h : (rdU s b).2.2.2 = false) : tri s a = none := by unfold tri; rw [e, h]; split <;> rfl
theorem tri_no3 {s : ByteArray} {a b c : Nat} (e : (rdU s a).2.1 = b) (e2 : (rdU s b).2.1 = c) (h : (rdS s c).2.2.2 = false) : tri s a = none := by
  unfold tri; rw [e, e2, h]; split
  · split <;> rfl
  · rfl
theorem tri_yes {s : ByteArray} {a b c : Nat} (h1 : (rdU s a).2.2.2 = true) (e : (rdU s a).2.1 = b) (h2 : (rdU s b).2.2.2 = true) (e2 : (rdU s b).2.1 = c) (h : (rdS s c).2.2.2 = true) :
    tri s a = some ((rdU s a).1, (rdU s b).1, (rdS s c).1, (rdS s c).2.1) := by
  unfold tri; rw [e, e2, h1, h2, h]; rfl

def smallT (g l : Nat) (p : Int) : Prop := g ≤ 1000000 ∧ l ≤ 1000000 ∧ -1000000 ≤ p ∧ p ≤ 1000000
instance (g l : Nat) (p : Int) : Decidable (smallT g l p) := by unfold smallT; infer_instance
/-- what the program does: rows, the place behind them, a code -/
def triI (s : ByteArray) (many : Int) : Nat → Nat → Int → Bool → List R3 → List R3 × Nat × Nat
  | 0, a, _, sm, acc => if sm = true ∧ rowsOk many 0 acc = true then (acc, a, 0) else ([], 0, 3)
  | k + 1, a, x, sm, acc => match tri s a with
    | none => ([], 0, 2)
    | some (g, l, p, e) => if sm = true ∧ smallT g l p then triI s many k e (x + g + l) true (acc ++ [⟨x + g, x + g + l, x + g + l + p⟩]) else triI s many k e x false acc
def rrI (s : ByteArray) (a : Nat) (many : Int) : List R3 × Nat × Nat :=
  if (rdU s a).2.2.2 = true ∧ (rdU s a).1 ≤ 300 then triI s many (rdU s a).1 (rdU s a).2.1 0 true [] else ([], 0, 1)
def fin (s : ByteArray) (r : List R3 × Nat × Nat) : List R3 × Nat × Bool := if r.2.2 ≠ 0 then ([], r.2.2, false) else if r.2.1 < s.size then ([], 4, false) else (r.1, 0, true)
/-- what ReadRows answers -/
def rdRows (s : ByteArray) (many : Int) : List R3 × Nat × Bool := if 1 ≤ many ∧ many ≤ 300 then fin s (rrI s 0 many) else ([], 1, false)

def sm7 (g : Nat) : Int := if 1000000 < g then 2000000 else g
def padS (p : Int) : Int := if -1000000 ≤ p ∧ p ≤ 1000000 then p else -2000000
def fromS (x : Int) (g : Nat) : Int := if 2000000 < x + sm7 g then 2000000 else x + sm7 g
def toS (f : Int) (l : Nat) : Int := if 4000000 < f + sm7 l then 4000000 else f + sm7 l
/-- what the reference does -/
def triS (s : ByteArray) (many : Int) : Nat → Nat → Int → List R3 → List R3 × Nat × Bool
  | 0, a, _, acc => if goodRows acc many = true then (if a < s.size then ([], 4, false) else (acc, 0, true)) else ([], 3, false)
  | k + 1, a, x, acc => match tri s a with
    | none => ([], 2, false)
    | some (g, l, p, e) => triS s many k e (toS (fromS x g) l) (acc ++ [⟨fromS x g, toS (fromS x g) l, toS (fromS x g) l + padS p⟩])
def rrS (s : ByteArray) (many : Int) : List R3 × Nat × Bool :=
  if 1 ≤ many ∧ many ≤ 300 then
    if (rdU s 0).2.2.2 = true ∧ (rdU s 0).1 ≤ 300 then triS s many (rdU s 0).1 (rdU s 0).2.1 0 [] else ([], 1, false)
  else ([], 1, false)
theorem triI_no {s : ByteArray} {many : Int} {k a : Nat} {x : Int} {sm : Bool} {acc : List R3} (h : tri s a = none) : triI s many (k + 1) a x sm acc = ([], 0, 2) := by simp only [triI, h]
theorem triS_no {s : ByteArray} {many : Int} {k a : Nat} {x : Int} {acc : List R3} (h : tri s a = none) : triS s many (k + 1) a x acc = ([], 2, false) := by simp only [triS, h]
theorem triI_small {s : ByteArray} {many : Int} {k a g l e : Nat} {x p : Int} {acc : List R3} (h : tri s a = some (g, l, p, e)) (hs : smallT g l p) :
    triI s many (k + 1) a x true acc = triI s many k e (x + g + l) true (acc ++ [⟨x + g, x + g + l, x + g + l + p⟩]) := by simp [triI, h, hs]
theorem triI_great {s : ByteArray} {many : Int} {k a g l e : Nat} {x p : Int} {sm : Bool} {acc : List R3} (h : tri s a = some (g, l, p, e)) (hs : ¬ (sm = true ∧ smallT g l p)) :
    triI s many (k + 1) a x sm acc = triI s many k e x false acc := by
  rw [triI, h]; exact if_neg hs
theorem triS_yes {s : ByteArray} {many : Int} {k a g l e : Nat} {x p : Int} {acc : List R3} (h : tri s a = some (g, l, p, e)) :
    triS s many (k + 1) a x acc = triS s many k e (toS (fromS x g) l) (acc ++ [⟨fromS x g, toS (fromS x g) l, toS (fromS x g) l + padS p⟩]) := by simp only [triS, h]

theorem rowsOk_append (many : Int) : ∀ (l : List R3) (a : Int) (r : List R3), rowsOk many a (l ++ r) = true → rowsOk many a l = true := by
  intro l
  induction l with
  | nil => intro a r _; rfl
  | cons y l ih =>
    intro a r h
    simp only [List.cons_append, rowsOk] at h ⊢
    by_cases hr : rowOk a many y
    · rw [if_pos hr] at h ⊢; exact ih _ _ h
    · rw [if_neg hr] at h; cases h
theorem rowsOk_bad {many : Int} {l : List R3} {a : Int} (r : List R3) (h : rowsOk many a l = false) : rowsOk many a (l ++ r) = false := by
  cases h2 : rowsOk many a (l ++ r) with
  | false => rfl
  | true => rw [rowsOk_append many l a r h2] at h; cases h
theorem rowsOk_last (many : Int) : ∀ (l : List R3) (a : Int) (r : R3), rowsOk many a (l ++ [r]) = true → r.t ≤ many ∧ 0 ≤ r.p := by
  intro l
  induction l with
  | nil =>
    intro a r h
    simp only [List.nil_append, rowsOk] at h
    by_cases hr : rowOk a many r
    · exact ⟨hr.2.2.1, hr.2.2.2.1⟩
    · rw [if_neg hr] at h; cases h
  | cons y l ih =>
    intro a r h
    simp only [List.cons_append, rowsOk] at h
    by_cases hr : rowOk a many y
    · rw [if_pos hr] at h; exact ih _ _ h
    · rw [if_neg hr] at h; cases h
theorem rowsOk_lastbad {many : Int} {l : List R3} {a : Int} {r : R3} (h : ¬ (r.t ≤ many ∧ 0 ≤ r.p)) : rowsOk many a (l ++ [r]) = false := by
  cases h2 : rowsOk many a (l ++ [r]) with
  | false => rfl
  | true => exact absurd (rowsOk_last many l a r h2) h

theorem tri_same (s : ByteArray) (many : Int) (h1 : 1 ≤ many) (h2 : many ≤ 300) : ∀ (k a : Nat) (x x' : Int) (sm : Bool) (acc acc' : List R3),
    (sm = true ∧ acc' = acc ∧ x' = x ∧ 0 ≤ x ∧ x ≤ 300) ∨ (rowsOk many 0 acc' = false ∧ (sm = false ∨ rowsOk many 0 acc = false)) →
    fin s (triI s many k a x sm acc) = triS s many k a x' acc' := by
  intro k
  induction k with
  | zero =>
    intro a x x' sm acc acc' h
    have e1 : goodRows acc' many = rowsOk many 0 acc' := by rw [goodRows_eq, decide_eq_true ⟨h1, h2⟩]; rfl
    simp only [triI, triS, e1]
    rcases h with ⟨rfl, rfl, rfl, _, _⟩ | ⟨hb, hc⟩
    · by_cases g : rowsOk many 0 acc' = true
      · rw [if_pos ⟨rfl, g⟩, if_pos g]; simp [fin]
      · rw [if_neg (by simp [g]), if_neg g]; simp [fin]
    · rw [hb, if_neg (by rintro ⟨q1, q2⟩; rcases hc with hc | hc <;> simp_all), if_neg (by simp)]; simp [fin]
  | succ k ih =>
    intro a x x' sm acc acc' h
    cases ht : tri s a with
    | none => rw [triI_no ht, triS_no ht]; simp [fin]
    | some y =>
      obtain ⟨g, l, p, e⟩ := y
      rw [triS_yes ht]
      rcases h with ⟨rfl, rfl, rfl, hx0, hx1⟩ | ⟨hb, hc⟩
      · by_cases hs : smallT g l p
        · rw [triI_small ht hs]
          obtain ⟨g1, g2, g3, g4⟩ := hs
          have ef : fromS x' g = x' + g := by unfold fromS sm7; rw [if_neg (by omega), if_neg (by omega)]
          have et : toS (x' + g) l = x' + g + l := by unfold toS sm7; rw [if_neg (by omega), if_neg (by omega)]
          have ep : padS p = p := by unfold padS; rw [if_pos ⟨g3, g4⟩]
          rw [ef, et, ep]
          by_cases hm : x' + g + l ≤ many
          · exact ih _ _ _ _ _ _ (.inl ⟨rfl, rfl, rfl, by omega, by omega⟩)
          · have hbad : rowsOk many 0 (acc' ++ [⟨x' + g, x' + g + l, x' + g + l + p⟩]) = false := rowsOk_lastbad (fun q => hm q.1)
            exact ih _ _ _ _ _ _ (.inr ⟨hbad, .inr hbad⟩)
        · rw [triI_great ht (fun q => hs q.2)]
          refine ih _ _ _ _ _ _ (.inr ⟨rowsOk_lastbad (fun q => ?_), .inl rfl⟩)
          obtain ⟨q1, q2⟩ := q
          dsimp only at q1 q2
          unfold smallT at hs
          by_cases b1 : g ≤ 1000000
          · have ef : fromS x' g = x' + g := by unfold fromS sm7; rw [if_neg (by omega), if_neg (by omega)]
            rw [ef] at q1 q2
            by_cases b2 : l ≤ 1000000
            · have ep : padS p = -2000000 := by unfold padS; rw [if_neg (by omega)]
              rw [ep] at q2; omega
            · have : 1000000 < l := by omega
              unfold toS sm7 at q1
              rw [if_pos this] at q1
              split at q1 <;> omega
          · have b1' : 1000000 < g := by omega
            have ef : fromS x' g = 2000000 := by unfold fromS sm7; rw [if_pos b1']; split <;> omega
            rw [ef] at q1
            have hs7 : 0 ≤ sm7 l := by unfold sm7; split <;> omega
            unfold toS at q1
            split at q1 <;> omega
      · have hb2 := rowsOk_bad [(⟨fromS x' g, toS (fromS x' g) l, toS (fromS x' g) l + padS p⟩ : R3)] hb
        by_cases hs : sm = true ∧ smallT g l p
        · obtain ⟨rfl, hs⟩ := hs
          rw [triI_small ht hs]
          have hc : rowsOk many 0 acc = false := by rcases hc with hc | hc; cases hc; exact hc
          exact ih _ _ _ _ _ _ (.inr ⟨hb2, .inr (rowsOk_bad _ hc)⟩)
        · rw [triI_great ht hs]
          exact ih _ _ _ _ _ _ (.inr ⟨hb2, .inl rfl⟩)
theorem rr_same (s : ByteArray) (many : Int) : rrS s many = rdRows s many := by
  unfold rrS rdRows rrI
  by_cases h : 1 ≤ many ∧ many ≤ 300
  · rw [if_pos h, if_pos h]
    by_cases h2 : (rdU s 0).2.2.2 = true ∧ (rdU s 0).1 ≤ 300
    · rw [if_pos h2, if_pos (by exact h2)]
      exact (tri_same s many h.1 h.2 _ _ _ _ _ _ _ (.inl ⟨rfl, rfl, rfl, by omega, by omega⟩)).symm
    · rw [if_neg h2, if_neg (by exact h2)]; simp [fin]
  · rw [if_neg h, if_neg h]
/-- the three reads of a row -/
theorem tri_parts (s : ByteArray) (a : Nat) : ∃ (gv gn gc : Nat) (gok : Bool) (lv ln lc : Nat) (lok : Bool) (pv : Int) (pn pc : Nat) (pok : Bool),
    rdU s a = (gv, gn, gc, gok) ∧ rdU s gn = (lv, ln, lc, lok) ∧ rdS s ln = (pv, pn, pc, pok) ∧ gv < 18446744073709551616 ∧ gn ≤ s.size ∧ lv < 18446744073709551616 ∧ ln ≤ s.size ∧ (-9223372036854775808 ≤ pv ∧ pv ≤ 9223372036854775807) ∧ pn ≤ s.size ∧
    tri s a = if gok = true ∧ lok = true ∧ pok = true then some (gv, lv, pv, pn) else none := by
  have h1 := rdU_any s a
  rcases e1 : rdU s a with ⟨gv, gn, gc, gok⟩
  rw [e1] at h1
  have h2 := rdU_any s gn
  rcases e2 : rdU s gn with ⟨lv, ln, lc, lok⟩
  rw [e2] at h2
  have h3 := rdS_any s ln
  rcases e3 : rdS s ln with ⟨pv, pn, pc, pok⟩
  rw [e3] at h3
  have ht : tri s a = if gok = true then (if lok = true then (if pok = true then some (gv, lv, pv, pn) else none) else none) else none := by
    unfold tri
    simp only [e1, e2, e3]
  refine ⟨gv, gn, gc, gok, lv, ln, lc, lok, pv, pn, pc, pok, rfl, e2, e3, h1.1, h1.2, h2.1, h2.2, ⟨h3.1, h3.2.1⟩, h3.2.2, ?_⟩
  rw [ht]
  cases gok <;> cases lok <;> cases pok <;> rfl
theorem small_ways (g l : Nat) (p : Int) : smallT g l p ∨ (¬ smallT g l p ∧ 1000000 < g) ∨ (¬ smallT g l p ∧ g ≤ 1000000 ∧ 1000000 < l) ∨ (¬ smallT g l p ∧ g ≤ 1000000 ∧ l ≤ 1000000 ∧ p < -1000000) ∨ (¬ smallT g l p ∧ g ≤ 1000000 ∧ l ≤ 1000000 ∧ -1000000 ≤ p ∧ 1000000 < p) := by
  unfold smallT; omega
end Go.Proofs.Ytheddnjhkcpmnaa
