
/- Pairs of numbers in memory: plain facts. No condition. -/
import Derived.Test.YtoloajmgdcpfpaaMem3
import Derived.Test.YtoloajmgdcpfpaaKit
set_option linter.unusedSimpArgs false
set_option linter.unusedVariables false
namespace Go.Proofs.Ytoloajmgdcpfpaa
open Go.RowKit

structure P2 where
  o : Int
  n : Int
deriving DecidableEq
def P2.cell (r : P2) : List Value := [.int .i64 r.o, .int .i64 r.n]
def P2.agg (r : P2) : Value := .agg #[.int .i64 r.o, .int .i64 r.n]
def pcells (l : List P2) : List Value := l.flatMap P2.cell
theorem pcells_length (l : List P2) : (pcells l).length = l.length * 2 := by
  induction l with
  | nil => rfl
  | cons r l ih => simp only [pcells, List.flatMap_cons, List.length_append, List.length_cons] at *; rw [ih]; simp [P2.cell]; omega
theorem pcells_append (a b : List P2) : pcells (a ++ b) = pcells a ++ pcells b := by simp [pcells]
theorem pcells_cons (r : P2) (l : List P2) : pcells (r :: l) = .int .i64 r.o :: .int .i64 r.n :: pcells l := rfl
theorem pcells_snoc (l : List P2) (r : P2) : pcells (l ++ [r]) = pcells l ++ [.int .i64 r.o, .int .i64 r.n] := by rw [pcells_append]; rfl
theorem pcells_set : ∀ (l : List P2) (k : Nat) (r : P2), k < l.length → ((pcells l).set (k * 2) (.int .i64 r.o)).set (k * 2 + 1) (.int .i64 r.n) = pcells (l.set k r) := by
  intro l
  induction l with
  | nil => intro k r h; simp at h
  | cons x l ih =>
    intro k r h
    cases k with
    | zero => simp [pcells_cons]
    | succ k =>
      have := ih k r (by simpa using h)
      rw [show (k + 1) * 2 = k * 2 + 1 + 1 by omega]
      simp only [pcells_cons, List.set_cons_succ]
      rw [← this]
theorem pcells_get (l : List P2) (k : Nat) (h : k < l.length) : (pcells l)[k * 2]? = some (.int .i64 l[k].o) ∧ (pcells l)[k * 2 + 1]? = some (.int .i64 l[k].n) := by
  have e : l = l.take k ++ (l[k] :: l.drop (k + 1)) := by rw [← List.drop_eq_getElem_cons h, List.take_append_drop]
  have hl : (pcells (l.take k)).length = k * 2 := by rw [pcells_length, List.length_take, Nat.min_eq_left (by omega)]
  have e2 : pcells l = pcells (l.take k) ++ (l[k].cell ++ pcells (l.drop (k + 1))) := by
    conv => lhs; rw [e]
    rw [pcells_append]; rfl
  rw [e2]
  refine ⟨?_, ?_⟩ <;> rw [List.getElem?_append_right (by omega), hl] <;> simp [P2.cell]
/-- the two cells of an element of a slice that is read -/
theorem Rd.two {w : World} {B c k : Nat} {A : Option Addr} {l : List P2} (h : Rd w B (.slice A l.length c) l.length (pcells l)) (hk : k < l.length) :
    ∃ b o, A = some ⟨b, o, none⟩ ∧ b < B ∧ w.cell? ⟨b, o + k * 2, none⟩ = some (.int .i64 l[k].o) ∧ w.cell? ⟨b, o + k * 2 + 1, none⟩ = some (.int .i64 l[k].n) := by
  obtain ⟨g0, g1⟩ := pcells_get l k hk
  obtain ⟨b, o, rfl, hbB, s0⟩ := h.at3 g0
  obtain ⟨_, _, e, _, s1⟩ := h.at3 g1
  cases e
  exact ⟨b, o, rfl, hbB, s0, by rw [← Nat.add_assoc] at s1; exact s1⟩
theorem Rd.two' {w w' : World} {B B' c k : Nat} {A : Option Addr} {l : List P2} (h : Rd w B (.slice A l.length c) l.length (pcells l)) (hb : Below B' w w') (hB : B ≤ B') (hk : k < l.length) :
    ∃ b o, A = some ⟨b, o, none⟩ ∧ b < B ∧ w'.cell? ⟨b, o + k * 2, none⟩ = some (.int .i64 l[k].o) ∧ w'.cell? ⟨b, o + k * 2 + 1, none⟩ = some (.int .i64 l[k].n) := (h.below' hb hB).two hk
def iotaP (k : Int) (n : Nat) : List P2 := (List.range n).map fun (j : Nat) => ⟨k + 2 * (j : Int), k + 2 * (j : Int) + 1⟩
theorem iotaP_length (k : Int) (n : Nat) : (iotaP k n).length = n := by simp [iotaP]
theorem iotaP_get (k : Int) (n j : Nat) (h : j < n) : (iotaP k n)[j]'(by rw [iotaP_length]; exact h) = ⟨k + 2 * (j : Int), k + 2 * (j : Int) + 1⟩ := by simp [iotaP]
theorem iotaP_succ (k : Int) (n : Nat) : iotaP k (n + 1) = iotaP k n ++ [⟨k + 2 * (n : Int), k + 2 * (n : Int) + 1⟩] := by simp [iotaP, List.range_succ]
theorem markP_set (l : List P2) (k : Int) (j : Nat) (h : j < l.length) : (iotaP k j ++ l.drop j).set j ⟨k + 2 * (j : Int), k + 2 * (j : Int) + 1⟩ = iotaP k (j + 1) ++ l.drop (j + 1) := by
  rw [List.set_append, if_neg (by rw [iotaP_length]; omega), iotaP_length, Nat.sub_self, List.drop_eq_getElem_cons h, iotaP_succ, List.set_cons_zero, List.append_assoc]
  rfl
theorem grown_setP {a w : World} {g : Nat} (h : a.grownBy w (some g)) {p : Addr} (hp : p.block = g) (u : Value) : a.grownBy (w.setCell p u) (some g) :=
  ⟨h.os, h.tape, h.output, by simpa [World.setCell] using h.size, fun i hi hne => (Below.heap_setCell w p u i (by rintro rfl; exact hne (by rw [hp]))).trans (h.block i hi hne)⟩
end Go.Proofs.Ytoloajmgdcpfpaa
set_option linter.unusedSimpArgs false
set_option linter.unusedVariables false
namespace Go.Proofs.Ytoloajmgdcpfpaa

/-- x put among rising numbers -/
def putL : List Int → Int → List Int
  | [], x => [x]
  | a :: l, x => if a < x then a :: putL l x else if a = x then a :: l else x :: a :: l
theorem putL_same : ∀ (l : List Int) (k : Nat) (x : Int), (∀ j (h : j < l.length), j < k → l[j] < x) → ∀ hk : k < l.length, l[k] = x → putL l x = l := by
  intro l
  induction l with
  | nil => intro k x _ hk; simp at hk
  | cons a l ih =>
    intro k x hlt hk he
    cases k with
    | zero => simp only [List.getElem_cons_zero] at he; subst he; simp only [putL]; rw [if_neg (by omega)]; simp
    | succ k =>
      have h0 := hlt 0 (by simp) (by omega)
      simp only [List.getElem_cons_zero] at h0
      simp only [putL]
      rw [if_pos h0, ih k x (fun j hj hjk => by have := hlt (j + 1) (by simpa using hj) (by omega); simpa using this) (by simpa using hk) (by simpa using he)]
theorem putL_new : ∀ (l : List Int) (k : Nat) (x : Int), k ≤ l.length → (∀ j (h : j < l.length), j < k → l[j] < x) → (∀ hk : k < l.length, ¬ l[k] < x ∧ l[k] ≠ x) → putL l x = l.take k ++ [x] ++ l.drop k := by
  intro l
  induction l with
  | nil => intro k x _ _ _; simp [putL]
  | cons a l ih =>
    intro k x hk hlt hn
    cases k with
    | zero =>
      obtain ⟨h1, h2⟩ := hn (by simp)
      simp only [List.getElem_cons_zero] at h1 h2
      simp only [putL]
      rw [if_neg h1, if_neg h2]; rfl
    | succ k =>
      have h0 := hlt 0 (by simp) (by omega)
      simp only [List.getElem_cons_zero] at h0
      simp only [putL]
      rw [if_pos h0, ih k x (by simpa using hk) (fun j hj hjk => by have := hlt (j + 1) (by simpa using hj) (by omega); simpa using this) (fun hk' => by have := hn (by simpa using hk'); simpa using this)]
      rfl
end Go.Proofs.Ytoloajmgdcpfpaa
set_option linter.unusedSimpArgs false
set_option linter.unusedVariables false
namespace Go.Proofs.Ytoloajmgdcpfpaa

/-- where an instruction goes on -/
def nextI (t : P2) (a : Int) : List Int := if t.o = 10 then [t.n] else if t.o = 11 then putL [a + 1] t.n else if t.o = 13 ∨ t.o = 14 ∨ t.o = 16 ∨ t.o = 18 then [] else [a + 1]
theorem nextI_length (t : P2) (a : Int) : (nextI t a).length ≤ 2 := by
  unfold nextI
  split
  · simp
  split
  · simp only [putL]; split
    · simp
    · split <;> simp
  split <;> simp
end Go.Proofs.Ytoloajmgdcpfpaa
