
/- Slices in memory: what is read, what is owned. No condition. -/
import Derived.Test.YtgkjakoagdkpcaaGreatDoorKit
set_option linter.unusedSimpArgs false
set_option linter.unusedVariables false
namespace Go.Proofs.YtgkjakoagdkpcaaGreatDoor
open Go.RowKit

/-- the slice value v has n elements; its cells, one behind the other, are cs; they lie below block B -/
def Rd (w : World) (B : Nat) (v : Value) (n : Nat) (cs : List Value) : Prop :=
  ∃ A c, v = .slice A n c ∧ n ≤ c ∧ c ≤ maxLen ∧ ∀ j u, cs[j]? = some u → ∃ b o, A = some ⟨b, o, none⟩ ∧ b < B ∧ w.cell? ⟨b, o + j, none⟩ = some u

section
variable {w w' : World} {B B' n c : Nat} {v : Value} {A : Option Addr} {cs : List Value}
theorem Rd.at_ (h : Rd w B (.slice A n c) n cs) {j : Nat} (hj : j < cs.length) : ∃ b o, A = some ⟨b, o, none⟩ ∧ b < B ∧ w.cell? ⟨b, o + j, none⟩ = some cs[j] := by
  obtain ⟨A', c', e, _, _, hc⟩ := h
  injection e with e1 e2 e3
  subst e1
  exact hc j _ (List.getElem?_eq_getElem hj)
theorem Rd.keep (h : Rd w B v n cs) (hk : ∀ p : Addr, p.block < B → w'.cell? p = w.cell? p) : Rd w' B v n cs := by
  obtain ⟨A, c, e, h1, h2, hc⟩ := h
  refine ⟨A, c, e, h1, h2, fun j u hu => ?_⟩
  obtain ⟨b, o, hA, hb, hcell⟩ := hc j u hu
  exact ⟨b, o, hA, hb, (hk _ hb).trans hcell⟩
theorem Rd.more (h : Rd w B v n cs) (hB : B ≤ B') : Rd w B' v n cs := by
  obtain ⟨A, c, e, h1, h2, hc⟩ := h
  refine ⟨A, c, e, h1, h2, fun j u hu => ?_⟩
  obtain ⟨b, o, hA, hb, hcell⟩ := hc j u hu
  exact ⟨b, o, hA, by omega, hcell⟩
theorem Rd.below (h : Rd w B v n cs) (hb : Below B w w') : Rd w' B v n cs := h.keep fun _ hp => hb.cell hp
theorem Rd.below' (h : Rd w B v n cs) (hb : Below B' w w') (hB : B ≤ B') : Rd w' B v n cs := h.keep fun _ hp => hb.cell (by omega)
theorem Rd.drew (h : Rd w B v n cs) : Rd w.drew B v n cs := h
theorem Rd.drewN (h : Rd w B v n cs) (k : Nat) : Rd (w.drewN k) B v n cs := h
theorem Rd.of_own {base : Nat} {e : TypeId} {size : Nat} (h : w.ownsRow base e size v n cs) : Rd w w.heap.size v n cs := by
  rcases h.2 with ⟨rfl, rfl⟩ | ⟨g, cap, cur, rfl, hg, hh, hn, hc, _⟩
  · refine ⟨_, _, rfl, Nat.le_refl _, by unfold maxLen; omega, fun j u hu => ?_⟩
    have := h.1
    simp at this
    subst this
    simp at hu
  · refine ⟨_, _, rfl, hn, hc, fun j u hu => ?_⟩
    have := h.cells (g := g) rfl j u hu
    have hp : ((⟨g, 0, none⟩ : Addr).add j) = ⟨g, 0 + j, none⟩ := by unfold Addr.add; split <;> simp_all
    rw [hp] at this
    exact ⟨g, 0, rfl, (Array.getElem?_eq_some_iff.1 hh).1, this⟩
end

/-- the cells of numbers -/
def icells (k : IntKind) (zs : List Int) : List Value := zs.map (Value.int k)
theorem icells_length (k : IntKind) (zs : List Int) : (icells k zs).length = zs.length := by simp [icells]
theorem icells_get (k : IntKind) (zs : List Int) {j : Nat} (h : j < zs.length) : (icells k zs)[j]'(by rw [icells_length]; exact h) = .int k zs[j] := by simp [icells]
theorem icells_append (k : IntKind) (a b : List Int) : icells k (a ++ b) = icells k a ++ icells k b := by simp [icells]

/-- 'make([]T, n)' -/
theorem wpList_makeN {P : Program} {ops : Array Oper} {rest : List Oper} {o : Oper} {a : Act} {Q : Exit → Act → World → Prop} (hg : o.guard = none) (l c : Operand) (t : TypeId) (hop : o.op = Op.makeSlice t l c)
    {e : TypeId} {z : Value} {size bytes : Nat} (hT : SliceOk P t e z size bytes) {w : World} {kl : IntKind} (n : Nat) (hl : a.eval l = .int kl (n : Int)) (hc : a.eval c = .int kl (n : Int)) (hb : bytes * n ≤ 281474976710656) (h63 : n ≤ maxLen)
    (hK : ∀ w', w'.ownsRow w.heap.size e size (.slice (some ⟨w.heap.size, 0, none⟩) n n) n (madeCells z.cells (n * size)).toList → Below w.heap.size w w' → wpList P ops Q rest (a.put o.dst (.slice (some ⟨w.heap.size, 0, none⟩) n n)) w') :
    wpList P ops Q (o :: rest) a w := by
  obtain ⟨ht, i, hi, hz, hsz, hby, hzs, hs0⟩ := hT
  refine wpList_make_full w hg l c t hop w.heap.size e i z size ht hi hz hsz kl kl _ _ n hl hc rfl rfl (by rw [hby]; exact hb) h63 (Nat.le_refl _) (fun w' h1 h2 => hK w' h1 ?_)
  exact (Below.refl _ _).grown h2 (Nat.le_refl _) (fun k hk => by cases hk)

theorem made_int (k : IntKind) (n : Nat) : (madeCells (Value.int k 0).cells (n * 1)).toList = icells k (List.replicate n 0) := by
  rw [Nat.mul_one]
  have e : (Value.int k 0).cells = #[.int k 0] := rfl
  rw [e, toList_madeCells_one]
  simp [icells]
/-- the first k numbers of zs, then zeros -/
def filled (zs : List Int) (k : Nat) : List Int := zs.take k ++ List.replicate (zs.length - k) 0
theorem filled_length (zs : List Int) (k : Nat) (h : k ≤ zs.length) : (filled zs k).length = zs.length := by simp [filled]; omega
theorem filled_zero (zs : List Int) : filled zs 0 = List.replicate zs.length 0 := by simp [filled]
theorem filled_all (zs : List Int) : filled zs zs.length = zs := by simp [filled]
theorem filled_set (zs : List Int) (k : Nat) (h : k < zs.length) : (filled zs k).set k zs[k] = filled zs (k + 1) := by
  apply List.ext_getElem?
  intro j
  rw [List.getElem?_set]
  unfold filled
  simp only [List.length_append, List.length_take, List.length_replicate, List.getElem?_append, List.getElem?_take, List.getElem?_replicate]
  by_cases h1 : k = j
  · subst h1
    simp [Nat.min_eq_left (Nat.le_of_lt h), Nat.min_eq_left (show k + 1 ≤ zs.length by omega), h]
    omega
  · simp only [if_neg h1, Nat.min_eq_left (Nat.le_of_lt h), Nat.min_eq_left (show k + 1 ≤ zs.length by omega)]
    by_cases h2 : j < k
    · simp [h2, show j < k + 1 by omega]
    · simp only [if_neg h2, if_neg (show ¬ j < k + 1 by omega)]
      by_cases h3 : j < zs.length
      · rw [if_pos (by omega), if_pos (by omega)]
      · rw [if_neg (by omega), if_neg (by omega)]
theorem icells_set (k : IntKind) (zs : List Int) (j : Nat) (x : Int) : (icells k zs).set j (.int k x) = icells k (zs.set j x) := by simp [icells, List.map_set]

theorem own_at {w : World} {base : Nat} {e : TypeId} {size g n cap : Nat} {xs : List Value} (h : w.ownsRow base e size (.slice (some ⟨g, 0, none⟩) n cap) n xs) {j : Nat} (hj : j < n * size) : ∃ u, w.cell? ⟨g, j, none⟩ = some u := by
  rw [h.cellAt j hj, List.getElem?_eq_getElem (by rw [h.1]; exact hj)]
  exact ⟨_, rfl⟩
end Go.Proofs.YtgkjakoagdkpcaaGreatDoor
set_option linter.unusedVariables false
namespace Go.Proofs.YtgkjakoagdkpcaaGreatDoor
open Go.RowKit
theorem Rd.go {w w' : World} {B B' n : Nat} {v : Value} {cs : List Value} (h : Rd w B v n cs) (hb : Below B' w w') (h1 : B ≤ B') (h2 : B ≤ w'.heap.size) : Rd w' w'.heap.size v n cs := (h.below' hb h1).more h2
theorem Rd.here {w w' : World} {v : Value} {n : Nat} {cs : List Value} (h : Rd w w.heap.size v n cs) (hb : Below w.heap.size w w') : Rd w' w'.heap.size v n cs := h.go hb (Nat.le_refl _) hb.size
end Go.Proofs.YtgkjakoagdkpcaaGreatDoor
set_option linter.unusedSimpArgs false
set_option linter.unusedVariables false
namespace Go.Proofs.YtgkjakoagdkpcaaGreatDoor
open Go.RowKit

def filledA {α : Type} (z : α) (l : List α) (k : Nat) : List α := l.take k ++ List.replicate (l.length - k) z
theorem Rd.at3 {w : World} {B n c j : Nat} {A : Option Addr} {cs : List Value} {u : Value} (h : Rd w B (.slice A n c) n cs) (hj : cs[j]? = some u) : ∃ b o, A = some ⟨b, o, none⟩ ∧ b < B ∧ w.cell? ⟨b, o + j, none⟩ = some u := by
  obtain ⟨A', c', e, _, _, hc⟩ := h
  injection e with e1 e2 e3
  subst e1
  exact hc j _ hj


theorem own_keep {W W' : World} {base n : Nat} {e : TypeId} {size : Nat} {v : Value} {xs : List Value} (h : W.ownsRow base e size v n xs) (hb : Below W.heap.size W W') : W'.ownsRow base e size v n xs := by
  refine ⟨h.1, ?_⟩
  rcases h.2 with hn | ⟨g, cap, cur, hv, hg, hh, r⟩
  · exact .inl hn
  · exact .inr ⟨g, cap, cur, hv, hg, (hb.block g (Array.getElem?_eq_some_iff.1 hh).1).trans hh, r⟩
theorem own_drew {w : World} {base n : Nat} {e : TypeId} {size : Nat} {v : Value} {xs : List Value} (h : w.ownsRow base e size v n xs) (q : Nat) : (w.drewN q).ownsRow base e size v n xs := h
theorem own_set {w : World} {base n cap g : Nat} {e : TypeId} {size : Nat} {xs : List Value} (h : w.ownsRow base e size (.slice (some ⟨g, 0, none⟩) n cap) n xs) (j : Nat) (u : Value) : (w.setCell ⟨g, j, none⟩ u).ownsRow base e size (.slice (some ⟨g, 0, none⟩) n cap) n (xs.set j u) := (h.stored j u).1
/-- Go's zero cells of a row of structs -/
theorem made_cells (z : Array Value) (n : Nat) (hz : 0 < z.size) : (madeCells z (n * z.size)).toList = (List.replicate n z.toList).flatten := by
  induction n with
  | zero => simp [madeCells]
  | succ n ih =>
    rw [List.replicate_succ, List.flatten_cons, ← ih]
    apply List.ext_getElem?
    intro j
    rw [List.getElem?_append]
    by_cases h1 : j < z.size
    · have h2 : j < (n + 1) * z.size := Nat.lt_of_lt_of_le h1 (Nat.le_mul_of_pos_left _ (by omega))
      simp [madeCells, h1, h2, Nat.mod_eq_of_lt h1]
    · have h1' : z.size ≤ j := by omega
      have e : (n + 1) * z.size = n * z.size + z.size := by rw [Nat.add_mul, Nat.one_mul]
      by_cases h2 : j < (n + 1) * z.size
      · have h3 : j - z.size < n * z.size := by omega
        simp [madeCells, h1, h2, h3, Nat.mod_eq_sub_mod h1']
      · have h3 : ¬ j - z.size < n * z.size := by omega
        simp [madeCells, h1, h2, h3]
theorem filledA_length {α : Type} (z : α) (l : List α) (k : Nat) (h : k ≤ l.length) : (filledA z l k).length = l.length := by simp [filledA]; omega
theorem filledA_zero {α : Type} (z : α) (l : List α) : filledA z l 0 = List.replicate l.length z := by simp [filledA]
theorem filledA_all {α : Type} (z : α) (l : List α) : filledA z l l.length = l := by simp [filledA]
theorem filledA_set {α : Type} (z : α) (l : List α) (k : Nat) (h : k < l.length) : (filledA z l k).set k l[k] = filledA z l (k + 1) := by
  have hl : (l.take k).length = k := by rw [List.length_take]; omega
  unfold filledA
  rw [List.set_append, if_neg (by omega), hl, Nat.sub_self, show l.length - k = (l.length - (k + 1)) + 1 by omega, List.replicate_succ, List.set_cons_zero, List.take_succ_eq_append_getElem h, List.append_assoc]
  rfl
end Go.Proofs.YtgkjakoagdkpcaaGreatDoor
set_option linter.unusedSimpArgs false
set_option linter.unusedVariables false
namespace Go.Proofs.YtgkjakoagdkpcaaGreatDoor
open Go.RowKit

theorem own_base {w : World} {base base' n : Nat} {e : TypeId} {size : Nat} {v : Value} {xs : List Value} (h : w.ownsRow base e size v n xs) (hb : base' ≤ base) : w.ownsRow base' e size v n xs := by
  refine ⟨h.1, ?_⟩
  rcases h.2 with hn | ⟨g, cap, cur, hv, hg, r⟩
  · exact .inl hn
  · exact .inr ⟨g, cap, cur, hv, by omega, r⟩
theorem own_form {w : World} {base n : Nat} {e : TypeId} {size : Nat} {v : Value} {xs : List Value} (h : w.ownsRow base e size v n xs) : ∃ A c, v = .slice A n c := by
  rcases h.2 with ⟨rfl, rfl⟩ | ⟨g, cap, cur, rfl, _⟩
  · exact ⟨_, _, rfl⟩
  · exact ⟨_, _, rfl⟩
theorem own_grown {w w' : World} {base n : Nat} {e : TypeId} {size : Nat} {v : Value} {xs : List Value} {row : Option Nat} (h : w.ownsRow base e size v n xs) (hg : w.grownBy w' row) (hr : ∀ k, row = some k → k < base) : w'.ownsRow base e size v n xs := by
  refine h.kept hg ?_
  rcases row with _ | k
  · rcases hv : v.ownBlock with _ | b
    · exact .inl rfl
    · exact .inr (by simp)
  · right
    intro e
    have := (h.lt k e).1
    have := hr k rfl
    omega
theorem own_some {w : World} {base n : Nat} {e : TypeId} {size : Nat} {v : Value} {xs : List Value} (h : w.ownsRow base e size v n xs) (hn : 0 < n) : ∃ g cap, v = .slice (some ⟨g, 0, none⟩) n cap := by
  rcases h.2 with ⟨_, h0⟩ | ⟨g, cap, cur, rfl, _⟩
  · omega
  · exact ⟨g, cap, rfl⟩
end Go.Proofs.YtgkjakoagdkpcaaGreatDoor
