
/- What an argument that is a slice of whatever elements reads as. No condition. -/
import Derived.Test.YtoloajmgdcpfpaaMem
import Derived.ProofKit
import Derived.Deep.Slices
set_option linter.unusedSimpArgs false
set_option linter.unusedVariables false
namespace Go.Proofs.Ytoloajmgdcpfpaa
open Go.RowKit Go.WideShapes Go.ChangeShapes Go.Deep

theorem exists_list {α : Type} {Q : Nat → α → Prop} : ∀ n : Nat, (∀ i, i < n → ∃ r, Q i r) → ∃ l : List α, l.length = n ∧ ∀ i (h : i < l.length), Q i l[i] := by
  intro n
  induction n with
  | zero => intro _; exact ⟨[], rfl, fun i h => by simp at h⟩
  | succ n ih =>
    intro hq
    obtain ⟨l, hl, hall⟩ := ih (fun i hi => hq i (by omega))
    obtain ⟨r, hr⟩ := hq n (by omega)
    refine ⟨l ++ [r], by simp [hl], fun i h => ?_⟩
    by_cases hi : i < l.length
    · rw [List.getElem_append_left hi]; exact hall i hi
    · have : i = l.length := by simp at h; omega
      subst this
      rw [List.getElem_append_right (by omega)]
      simp [hl, hr]
theorem flat_length {α : Type} {size : Nat} {cellOf : α → List Value} (hs : ∀ r, (cellOf r).length = size) (l : List α) : (l.flatMap cellOf).length = l.length * size := by
  induction l with
  | nil => simp
  | cons r l ih => rw [List.flatMap_cons, List.length_append, ih, hs, List.length_cons, Nat.add_mul, Nat.one_mul, Nat.add_comm]
theorem flat_get {α : Type} {size : Nat} {cellOf : α → List Value} (hs : ∀ r, (cellOf r).length = size) (l : List α) (i k : Nat) (hi : i < l.length) (hk : k < size) : (l.flatMap cellOf)[i * size + k]? = (cellOf l[i])[k]? := by
  have e : l = l.take i ++ (l[i] :: l.drop (i + 1)) := by rw [← List.drop_eq_getElem_cons hi, List.take_append_drop]
  have hl : ((l.take i).flatMap cellOf).length = i * size := by rw [flat_length hs, List.length_take, Nat.min_eq_left (by omega)]
  have e2 : l.flatMap cellOf = (l.take i).flatMap cellOf ++ (cellOf l[i] ++ (l.drop (i + 1)).flatMap cellOf) := by
    conv => lhs; rw [e]
    rw [List.flatMap_append, List.flatMap_cons]
  rw [e2, List.getElem?_append_right (by omega), hl, show i * size + k - i * size = k by omega, List.getElem?_append_left (by rw [hs]; exact hk)]
theorem addr_add (b o j : Nat) : ((⟨b, o, none⟩ : Addr).add j) = ⟨b, o + j, none⟩ := by unfold Addr.add; split <;> simp_all

section
variable {H : Type} {enc : TypeId × Value → H} {P : Program} {w : World}
theorem open_slice_rd {α : Type} {size : Nat} {cellOf : α → List Value} {R : α → Prop} (hs : ∀ r, (cellOf r).length = size) (h0 : 0 < size) {t e : Nat} {v : Value} {d : DataW H} {p : List MemPlace}
    (ht : P.underlying t = some (.slice e)) (hC : P.cellsOf e = size) (hel : ∀ n cs x, DataW.trod enc P w 0 (fun _ => true) true n e cs = some x → ∃ r, cs = cellOf r ∧ R r)
    (h : ∃ fuel, DataW.trod enc P w 0 (fun _ => true) true fuel t [v] = some (d, p)) :
    ∃ l : List α, Rd w w.heap.size v l.length (l.flatMap cellOf) ∧ ∀ r ∈ l, R r := by
  obtain ⟨fuel, hf⟩ := h
  rcases open_slice ht hf with ⟨hcs, _⟩ | ⟨a, len, cap, m, n, D, Pl, hcs, _, hl, hm, hmm, _, hi⟩
  · simp at hcs
    subst hcs
    exact ⟨[], ⟨none, 0, rfl, Nat.le_refl _, by unfold maxLen; omega, fun j u hu => by simp at hu⟩, fun z hz => by simp at hz⟩
  · simp at hcs
    subst hcs
    rw [if_pos rfl] at hmm
    subst hmm
    obtain ⟨l, hll, hQ⟩ := exists_list (Q := fun i r => (∀ k, k < size → w.cell? ((a.add (i * size)).add k) = (cellOf r)[k]?) ∧ R r) len (fun i hi' => by
      obtain ⟨cs', hc, ht'⟩ := hi i (by omega)
      rw [hC] at hc
      obtain ⟨_, hcl, hat⟩ := World.cells?_some hc
      obtain ⟨r, rfl, hR⟩ := hel _ _ _ ht'
      exact ⟨r, hat, hR⟩)
    refine ⟨l, ⟨some a, m, by rw [hll], by omega, hm, fun j u hu => ?_⟩, fun r hr => ?_⟩
    · have hj : j < l.length * size := by
        have := (List.getElem?_eq_some_iff.1 hu).1
        rw [flat_length hs] at this; exact this
      have hi' : j / size < l.length := Nat.div_lt_of_lt_mul (by rw [Nat.mul_comm]; exact hj)
      have hpos : 0 < l.length := Nat.lt_of_le_of_lt (Nat.zero_le _) hi'
      have hk : j % size < size := Nat.mod_lt _ h0
      have hje : j / size * size + j % size = j := by rw [Nat.mul_comm]; exact Nat.div_add_mod j size
      have hcell := (hQ _ hi').1 _ hk
      have hcell0 := (hQ 0 hpos).1 0 h0
      obtain ⟨b, o, spot⟩ := a
      have hspot : spot = none := by
        have hx : (cellOf l[0])[0]? = some ((cellOf l[0])[0]'(by rw [hs]; exact h0)) := List.getElem?_eq_getElem _
        rw [hx] at hcell0
        have := World.cell?_spot hcell0
        simpa [Addr.add] using this
      subst hspot
      rw [addr_add, addr_add, Nat.add_assoc, hje, ← flat_get hs l _ _ hi' hk, hje, hu] at hcell
      exact ⟨b, o, rfl, World.block_lt_of_cell? _ _ hcell, hcell⟩
    · obtain ⟨i, hi', rfl⟩ := List.getElem_of_mem hr
      exact (hQ i hi').2
/-- a struct of three ints -/
theorem open_three {t : Nat} {f0 f1 f2 : Field} {n : Nat} {cs : List Value} {x : DataW H × List MemPlace} (ht : P.underlying t = some (.struct #[f0, f1, f2])) (hC : P.cellsOf t = 3) (ho : f0.offset = 0 ∧ f1.offset = 1 ∧ f2.offset = 2)
    (h0 : P.underlying f0.type = some (.int .i64) ∧ P.cellsOf f0.type = 1) (h1 : P.underlying f1.type = some (.int .i64) ∧ P.cellsOf f1.type = 1) (h2 : P.underlying f2.type = some (.int .i64) ∧ P.cellsOf f2.type = 1)
    (h : DataW.trod enc P w 0 (fun _ => true) true n t cs = some x) :
    ∃ a b c : Int, cs = [.int .i64 a, .int .i64 b, .int .i64 c] ∧ (Lit.int .i64 a).wf = true ∧ (Lit.int .i64 b).wf = true ∧ (Lit.int .i64 c).wf = true := by
  obtain ⟨xs, m, _, _, hcl, hxl, hf⟩ := DataW.trod_struct ht h
  rw [hC] at hcl
  match cs, hcl with
  | [c0, c1, c2], _ =>
    match xs, hxl with
    | [y0, y1, y2], _ =>
      have e0 := hf 0 f0 rfl
      have e1 := hf 1 f1 rfl
      have e2 := hf 2 f2 rfl
      rw [ho.1, h0.2] at e0
      rw [ho.2.1, h1.2] at e1
      rw [ho.2.2, h2.2] at e2
      obtain ⟨a, ha, _, wa⟩ := DataW.trod_int h0.1 (show _ = some y0 from e0)
      obtain ⟨b, hb, _, wb⟩ := DataW.trod_int h1.1 (show _ = some y1 from e1)
      obtain ⟨c, hc, _, wc⟩ := DataW.trod_int h2.1 (show _ = some y2 from e2)
      simp at ha hb hc
      exact ⟨a, b, c, by rw [ha, hb, hc], wa, wb, wc⟩
theorem icells_flat (k : IntKind) (l : List Int) : l.flatMap (fun z => [Value.int k z]) = icells k l := by
  induction l with
  | nil => rfl
  | cons z l ih => rw [List.flatMap_cons, ih]; rfl
theorem open_ints_at {t e : Nat} {k : IntKind} {v : Value} {x : DataW H × List MemPlace} {fuel : Nat} (ht : P.underlying t = some (.slice e)) (he : P.underlying e = some (.int k)) (hc : P.cellsOf e = 1)
    (h : DataW.trod enc P w 0 (fun _ => true) true fuel t [v] = some x) : ∃ zs : List Int, Rd w w.heap.size v zs.length (icells k zs) ∧ (∀ z ∈ zs, (Lit.int k z).wf = true) := by
  obtain ⟨l, hl, hw⟩ := open_slice_rd (size := 1) (cellOf := fun z => [Value.int k z]) (R := fun z => (Lit.int k z).wf = true) (fun _ => rfl) (by decide) ht hc (fun n cs x hx => by
    obtain ⟨a, hcs, _, wa⟩ := DataW.trod_int he hx
    exact ⟨a, hcs, wa⟩) ⟨fuel, h⟩
  rw [icells_flat] at hl
  exact ⟨l, hl, hw⟩
end
end Go.Proofs.Ytoloajmgdcpfpaa
