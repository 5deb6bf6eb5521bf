
/- What an argument that is a slice of whatever elements reads as. No condition. -/
import Derived.Test.YtheddnjhkcpmnaaDoorMem
import Derived.ProofKit
import Derived.Deep.Slices
import Derived.Test.YtheddnjhkcpmnaaDoorP2
import Derived.Test.YtheddnjhkcpmnaaDoorChecked
import Derived.OpenShut
import Derived.Lib.SmallJoins
import Derived.Test.YtheddnjhkcpmnaaDoorNst
set_option linter.unusedSimpArgs false
set_option linter.unusedVariables false
namespace Go.Proofs.YtheddnjhkcpmnaaDoor
open Go.RowKit Go.WideShapes Go.ChangeShapes Go.Deep

theorem exists_list {α : Type} {Q : Nat → α → Prop} : ∀ n : Nat, (∀ i, i < n → ∃ r, Q i r) → ∃ l : List α, l.length = n ∧ ∀ i (h : i < l.length), Q i l[i] := by
  intro n
  induction n with
  | zero => intro _; exact ⟨[], rfl, fun i h => by simp at h⟩
  | succ n ih =>
    intro hq
    obtain ⟨l, hl, hall⟩ := ih (fun i hi => hq i (by omega))
    obtain ⟨r, hr⟩ := hq n (by omega)
    refine ⟨l ++ [r], by simp [hl], fun i h => ?_⟩
    by_cases hi : i < l.length
    · rw [List.getElem_append_left hi]; exact hall i hi
    · have : i = l.length := by simp at h; omega
      subst this
      rw [List.getElem_append_right (by omega)]
      simp [hl, hr]
theorem flat_length {α : Type} {size : Nat} {cellOf : α → List Value} (hs : ∀ r, (cellOf r).length = size) (l : List α) : (l.flatMap cellOf).length = l.length * size := by
  induction l with
  | nil => simp
  | cons r l ih => rw [List.flatMap_cons, List.length_append, ih, hs, List.length_cons, Nat.add_mul, Nat.one_mul, Nat.add_comm]
theorem flat_get {α : Type} {size : Nat} {cellOf : α → List Value} (hs : ∀ r, (cellOf r).length = size) (l : List α) (i k : Nat) (hi : i < l.length) (hk : k < size) : (l.flatMap cellOf)[i * size + k]? = (cellOf l[i])[k]? := by
  have e : l = l.take i ++ (l[i] :: l.drop (i + 1)) := by rw [← List.drop_eq_getElem_cons hi, List.take_append_drop]
  have hl : ((l.take i).flatMap cellOf).length = i * size := by rw [flat_length hs, List.length_take, Nat.min_eq_left (by omega)]
  have e2 : l.flatMap cellOf = (l.take i).flatMap cellOf ++ (cellOf l[i] ++ (l.drop (i + 1)).flatMap cellOf) := by
    conv => lhs; rw [e]
    rw [List.flatMap_append, List.flatMap_cons]
  rw [e2, List.getElem?_append_right (by omega), hl, show i * size + k - i * size = k by omega, List.getElem?_append_left (by rw [hs]; exact hk)]
theorem addr_add (b o j : Nat) : ((⟨b, o, none⟩ : Addr).add j) = ⟨b, o + j, none⟩ := by unfold Addr.add; split <;> simp_all

section
variable {H : Type} {enc : TypeId × Value → H} {P : Program} {w : World}
theorem open_slice_rd {α : Type} {size : Nat} {cellOf : α → List Value} {R : α → Prop} (hs : ∀ r, (cellOf r).length = size) (h0 : 0 < size) {t e : Nat} {v : Value} {d : DataW H} {p : List MemPlace}
    (ht : P.underlying t = some (.slice e)) (hC : P.cellsOf e = size) (hel : ∀ n cs x, DataW.trod enc P w 0 (fun _ => true) true n e cs = some x → ∃ r, cs = cellOf r ∧ R r)
    (h : ∃ fuel, DataW.trod enc P w 0 (fun _ => true) true fuel t [v] = some (d, p)) :
    ∃ l : List α, Rd w w.heap.size v l.length (l.flatMap cellOf) ∧ ∀ r ∈ l, R r := by
  obtain ⟨fuel, hf⟩ := h
  rcases open_slice ht hf with ⟨hcs, _⟩ | ⟨a, len, cap, m, n, D, Pl, hcs, _, hl, hm, hmm, _, hi⟩
  · simp at hcs
    subst hcs
    exact ⟨[], ⟨none, 0, rfl, Nat.le_refl _, by unfold maxLen; omega, fun j u hu => by simp at hu⟩, fun z hz => by simp at hz⟩
  · simp at hcs
    subst hcs
    rw [if_pos rfl] at hmm
    subst hmm
    obtain ⟨l, hll, hQ⟩ := exists_list (Q := fun i r => (∀ k, k < size → w.cell? ((a.add (i * size)).add k) = (cellOf r)[k]?) ∧ R r) len (fun i hi' => by
      obtain ⟨cs', hc, ht'⟩ := hi i (by omega)
      rw [hC] at hc
      obtain ⟨_, hcl, hat⟩ := World.cells?_some hc
      obtain ⟨r, rfl, hR⟩ := hel _ _ _ ht'
      exact ⟨r, hat, hR⟩)
    refine ⟨l, ⟨some a, m, by rw [hll], by omega, hm, fun j u hu => ?_⟩, fun r hr => ?_⟩
    · have hj : j < l.length * size := by
        have := (List.getElem?_eq_some_iff.1 hu).1
        rw [flat_length hs] at this; exact this
      have hi' : j / size < l.length := Nat.div_lt_of_lt_mul (by rw [Nat.mul_comm]; exact hj)
      have hpos : 0 < l.length := Nat.lt_of_le_of_lt (Nat.zero_le _) hi'
      have hk : j % size < size := Nat.mod_lt _ h0
      have hje : j / size * size + j % size = j := by rw [Nat.mul_comm]; exact Nat.div_add_mod j size
      have hcell := (hQ _ hi').1 _ hk
      have hcell0 := (hQ 0 hpos).1 0 h0
      obtain ⟨b, o, spot⟩ := a
      have hspot : spot = none := by
        have hx : (cellOf l[0])[0]? = some ((cellOf l[0])[0]'(by rw [hs]; exact h0)) := List.getElem?_eq_getElem _
        rw [hx] at hcell0
        have := World.cell?_spot hcell0
        simpa [Addr.add] using this
      subst hspot
      rw [addr_add, addr_add, Nat.add_assoc, hje, ← flat_get hs l _ _ hi' hk, hje, hu] at hcell
      exact ⟨b, o, rfl, World.block_lt_of_cell? _ _ hcell, hcell⟩
    · obtain ⟨i, hi', rfl⟩ := List.getElem_of_mem hr
      exact (hQ i hi').2
/-- a struct of three ints -/
theorem open_three {t : Nat} {f0 f1 f2 : Field} {n : Nat} {cs : List Value} {x : DataW H × List MemPlace} (ht : P.underlying t = some (.struct #[f0, f1, f2])) (hC : P.cellsOf t = 3) (ho : f0.offset = 0 ∧ f1.offset = 1 ∧ f2.offset = 2)
    (h0 : P.underlying f0.type = some (.int .i64) ∧ P.cellsOf f0.type = 1) (h1 : P.underlying f1.type = some (.int .i64) ∧ P.cellsOf f1.type = 1) (h2 : P.underlying f2.type = some (.int .i64) ∧ P.cellsOf f2.type = 1)
    (h : DataW.trod enc P w 0 (fun _ => true) true n t cs = some x) :
    ∃ a b c : Int, cs = [.int .i64 a, .int .i64 b, .int .i64 c] ∧ (Lit.int .i64 a).wf = true ∧ (Lit.int .i64 b).wf = true ∧ (Lit.int .i64 c).wf = true := by
  obtain ⟨xs, m, _, _, hcl, hxl, hf⟩ := DataW.trod_struct ht h
  rw [hC] at hcl
  match cs, hcl with
  | [c0, c1, c2], _ =>
    match xs, hxl with
    | [y0, y1, y2], _ =>
      have e0 := hf 0 f0 rfl
      have e1 := hf 1 f1 rfl
      have e2 := hf 2 f2 rfl
      rw [ho.1, h0.2] at e0
      rw [ho.2.1, h1.2] at e1
      rw [ho.2.2, h2.2] at e2
      obtain ⟨a, ha, _, wa⟩ := DataW.trod_int h0.1 (show _ = some y0 from e0)
      obtain ⟨b, hb, _, wb⟩ := DataW.trod_int h1.1 (show _ = some y1 from e1)
      obtain ⟨c, hc, _, wc⟩ := DataW.trod_int h2.1 (show _ = some y2 from e2)
      simp at ha hb hc
      exact ⟨a, b, c, by rw [ha, hb, hc], wa, wb, wc⟩
theorem icells_flat (k : IntKind) (l : List Int) : l.flatMap (fun z => [Value.int k z]) = icells k l := by
  induction l with
  | nil => rfl
  | cons z l ih => rw [List.flatMap_cons, ih]; rfl
theorem open_ints_at {t e : Nat} {k : IntKind} {v : Value} {x : DataW H × List MemPlace} {fuel : Nat} (ht : P.underlying t = some (.slice e)) (he : P.underlying e = some (.int k)) (hc : P.cellsOf e = 1)
    (h : DataW.trod enc P w 0 (fun _ => true) true fuel t [v] = some x) : ∃ zs : List Int, Rd w w.heap.size v zs.length (icells k zs) ∧ (∀ z ∈ zs, (Lit.int k z).wf = true) := by
  obtain ⟨l, hl, hw⟩ := open_slice_rd (size := 1) (cellOf := fun z => [Value.int k z]) (R := fun z => (Lit.int k z).wf = true) (fun _ => rfl) (by decide) ht hc (fun n cs x hx => by
    obtain ⟨a, hcs, _, wa⟩ := DataW.trod_int he hx
    exact ⟨a, hcs, wa⟩) ⟨fuel, h⟩
  rw [icells_flat] at hl
  exact ⟨l, hl, hw⟩
end
end Go.Proofs.YtheddnjhkcpmnaaDoor
set_option linter.unusedSimpArgs false
set_option linter.unusedVariables false
set_option maxRecDepth 100000
namespace Go.Proofs.YtheddnjhkcpmnaaDoor
open Go.RowKit Go.WideShapes Go.ChangeShapes Go.Deep

theorem bd_i64 {a : Int} (h : (Lit.int .i64 a).wf = true) : -9223372036854775808 ≤ a ∧ a ≤ 9223372036854775807 := by
  simp [Lit.wf, IntKind.min, IntKind.max, IntKind.bits, IntKind.signed] at h; omega
section
variable {H : Type} {enc : TypeId × Value → H} {P : Program} {w : World}
/-- a struct of two ints -/
theorem open_two {t : Nat} {f0 f1 : Field} {n : Nat} {cs : List Value} {x : DataW H × List MemPlace} (ht : P.underlying t = some (.struct #[f0, f1])) (hC : P.cellsOf t = 2) (ho : f0.offset = 0 ∧ f1.offset = 1)
    (h0 : P.underlying f0.type = some (.int .i64) ∧ P.cellsOf f0.type = 1) (h1 : P.underlying f1.type = some (.int .i64) ∧ P.cellsOf f1.type = 1)
    (h : DataW.trod enc P w 0 (fun _ => true) true n t cs = some x) :
    ∃ a b : Int, cs = [.int .i64 a, .int .i64 b] ∧ (Lit.int .i64 a).wf = true ∧ (Lit.int .i64 b).wf = true := by
  obtain ⟨xs, m, _, _, hcl, hxl, hf⟩ := DataW.trod_struct ht h
  rw [hC] at hcl
  match cs, hcl with
  | [c0, c1], _ =>
    match xs, hxl with
    | [y0, y1], _ =>
      have e0 := hf 0 f0 rfl
      have e1 := hf 1 f1 rfl
      rw [ho.1, h0.2] at e0
      rw [ho.2, h1.2] at e1
      obtain ⟨a, ha, _, wa⟩ := DataW.trod_int h0.1 (show _ = some y0 from e0)
      obtain ⟨b, hb, _, wb⟩ := DataW.trod_int h1.1 (show _ = some y1 from e1)
      simp at ha hb
      exact ⟨a, b, by rw [ha, hb], wa, wb⟩
end
def P2.ok (t : P2) : Prop := (-9223372036854775808 ≤ t.o ∧ t.o ≤ 9223372036854775807) ∧ (-9223372036854775808 ≤ t.n ∧ t.n ≤ 9223372036854775807)
def IsPair (w : World) (v : Value) : Prop := ∃ t : P2, v = .agg #[.int .i64 t.o, .int .i64 t.n] ∧ t.ok
def IsPairs (w : World) (v : Value) : Prop := ∃ l : List P2, Rd w w.heap.size v l.length (pcells l) ∧ ∀ t ∈ l, t.ok
def IsInts (w : World) (v : Value) : Prop := ∃ l : List Int, Rd w w.heap.size v l.length (icells .i64 l) ∧ ∀ n ∈ l, -9223372036854775808 ≤ n ∧ n ≤ 9223372036854775807
section
variable {H : Type} {enc : TypeId × Value → H} {w : World} {r : Reach} {b0 : Nat} {v : Value} {d : DataW H} {p : List MemPlace}
theorem open_tok (hv : Value.okWide Tryd.prog w r b0 66 v) (h : DataW.Trod enc Tryd.prog w 0 (fun _ => true) true 66 v d p) (_ : ∀ x ∈ p, x.block < w.heap.size) : IsPair w v := by
  obtain ⟨c0, c1, y0, y1, m, rfl, rfl, rfl, h0, h1⟩ := Go.Joins.open_agg2 Tryd.underlying66 (by kernel_rfl) (by kernel_rfl) hv h
  obtain ⟨a, e0, _, wa⟩ := DataW.trod_int Tryd.underlying3 h0
  obtain ⟨b, e1, _, wb⟩ := DataW.trod_int Tryd.underlying3 h1
  simp at e0 e1
  subst e0 e1
  exact ⟨⟨a, b⟩, rfl, bd_i64 wa, bd_i64 wb⟩
theorem open_toks (hv : Value.okWide Tryd.prog w r b0 38 v) (h : DataW.Trod enc Tryd.prog w 0 (fun _ => true) true 38 v d p) (_ : ∀ x ∈ p, x.block < w.heap.size) : IsPairs w v := by
  obtain ⟨a0, len, cap, rfl⟩ := okWide_slice Tryd.underlying38 hv
  refine open_slice_rd (size := 2) (cellOf := P2.cell) (fun _ => rfl) (by decide) Tryd.underlying38 (by kernel_rfl) (fun n cs x hx => ?_) h
  obtain ⟨a, b, rfl, wa, wb⟩ := open_two Tryd.underlying66 (by kernel_rfl) ⟨rfl, rfl⟩ ⟨Tryd.underlying3, by kernel_rfl⟩ ⟨Tryd.underlying3, by kernel_rfl⟩ hx
  exact ⟨⟨a, b⟩, rfl, bd_i64 wa, bd_i64 wb⟩
theorem open_ins (hv : Value.okWide Tryd.prog w r b0 33 v) (h : DataW.Trod enc Tryd.prog w 0 (fun _ => true) true 33 v d p) (_ : ∀ x ∈ p, x.block < w.heap.size) : IsPair w v := by
  obtain ⟨c0, c1, y0, y1, m, rfl, rfl, rfl, h0, h1⟩ := Go.Joins.open_agg2 Tryd.underlying33 (by kernel_rfl) (by kernel_rfl) hv h
  obtain ⟨a, e0, _, wa⟩ := DataW.trod_int Tryd.underlying3 h0
  obtain ⟨b, e1, _, wb⟩ := DataW.trod_int Tryd.underlying3 h1
  simp at e0 e1
  subst e0 e1
  exact ⟨⟨a, b⟩, rfl, bd_i64 wa, bd_i64 wb⟩
theorem open_intl (hv : Value.okWide Tryd.prog w r b0 22 v) (h : DataW.Trod enc Tryd.prog w 0 (fun _ => true) true 22 v d p) (_ : ∀ x ∈ p, x.block < w.heap.size) : IsInts w v := by
  obtain ⟨a0, len, cap, rfl⟩ := okWide_slice Tryd.underlying22 hv
  obtain ⟨fuel, hf⟩ := h
  obtain ⟨zs, hz, hw⟩ := open_ints_at Tryd.underlying22 Tryd.underlying3 (by kernel_rfl) hf
  exact ⟨zs, hz, fun n hn => bd_i64 (hw n hn)⟩
end
end Go.Proofs.YtheddnjhkcpmnaaDoor
set_option linter.unusedSimpArgs false
set_option linter.unusedVariables false
set_option maxRecDepth 100000
namespace Go.Proofs.YtheddnjhkcpmnaaDoor
open Go.RowKit Go.WideShapes Go.ChangeShapes Go.Deep

section
variable {H : Type} {enc : TypeId × Value → H} {P : Program} {w : World}
theorem open_slice_rl {α : Type} {R : World → Nat → Nat → List Value → α → Prop} {size : Nat} (h0 : 0 < size) {t e : Nat} {v : Value} {d : DataW H} {p : List MemPlace}
    (ht : P.underlying t = some (.slice e)) (hC : P.cellsOf e = size) (hel : ∀ n cs x, DataW.trod enc P w 0 (fun _ => true) true n e cs = some x → ∃ r, R w 0 w.heap.size cs r)
    (h : ∃ fuel, DataW.trod enc P w 0 (fun _ => true) true fuel t [v] = some (d, p)) : ∃ l : List α, RL R size w 0 w.heap.size v l := by
  obtain ⟨fuel, hf⟩ := h
  rcases open_slice ht hf with ⟨hcs, _⟩ | ⟨a, len, cap, m, n, D, Pl, hcs, _, hl, hm, hmm, _, hi⟩
  · simp at hcs
    subst hcs
    exact ⟨[], RL.nil⟩
  · simp at hcs
    subst hcs
    rw [if_pos rfl] at hmm
    subst hmm
    obtain ⟨l, hll, hQ⟩ := exists_list (Q := fun i r => ∃ cs : List Value, cs.length = size ∧ (∀ k, k < size → w.cell? ((a.add (i * size)).add k) = cs[k]?) ∧ R w 0 w.heap.size cs r) len (fun i hi' => by
      obtain ⟨cs', hc, ht'⟩ := hi i (by omega)
      rw [hC] at hc
      obtain ⟨_, hcl, hat⟩ := World.cells?_some hc
      obtain ⟨r, hR⟩ := hel _ _ _ ht'
      exact ⟨r, cs', hcl, hat, hR⟩)
    refine ⟨l, some a, m, by rw [hll], by omega, hm, fun i hi' => ?_⟩
    obtain ⟨cs, hcl, hat, hR⟩ := hQ i hi'
    obtain ⟨b, o, spot⟩ := a
    obtain ⟨cs0, hcl0, hat0, _⟩ := hQ 0 (by omega)
    have hcell00 := hat0 0 h0
    have hx0 : cs0[0]? = some (cs0[0]'(by omega)) := List.getElem?_eq_getElem _
    have hspot : spot = none := by
      rw [hx0] at hcell00
      have := World.cell?_spot hcell00
      simpa [Addr.add] using this
    subst hspot
    have hcell0 := hat 0 h0
    have hx : cs[0]? = some (cs[0]'(by omega)) := List.getElem?_eq_getElem _
    rw [hx, addr_add, addr_add] at hcell0
    refine ⟨b, o, cs, rfl, ⟨Nat.zero_le _, World.block_lt_of_cell? _ _ hcell0⟩, hcl, fun k u hu => ?_, hR⟩
    have hk : k < size := by rw [← hcl]; exact (List.getElem?_eq_some_iff.1 hu).1
    have := hat k hk
    rw [addr_add, addr_add, hu] at this
    exact this
theorem list1 {α : Type} {cs : List α} (h : cs.length = 1) : ∃ c0, cs = [c0] := by
  match cs, h with
  | [c0], _ => exact ⟨c0, rfl⟩
theorem open_st1 {t : Nat} {f0 : Field} {n : Nat} {cs : List Value} {x : DataW H × List MemPlace} (ht : P.underlying t = some (.struct #[f0])) (hC : P.cellsOf t = 1) (ho : f0.offset = 0) (h1 : P.cellsOf f0.type = 1)
    (h : DataW.trod enc P w 0 (fun _ => true) true n t cs = some x) :
    ∃ (c0 : Value) (y0 : DataW H × List MemPlace) (m : Nat), cs = [c0] ∧ DataW.trod enc P w 0 (fun _ => true) true m f0.type [c0] = some y0 := by
  obtain ⟨xs, m, _, _, hcl, hxl, hf⟩ := DataW.trod_struct ht h
  rw [hC] at hcl
  obtain ⟨c0, rfl⟩ := list1 hcl
  obtain ⟨y0, rfl⟩ := list1 (show xs.length = 1 from hxl)
  have o0 := ho; have k0 := h1
  have e0 := hf 0 f0 rfl
  rw [o0, k0] at e0
  exact ⟨c0, y0, m, rfl, e0⟩
theorem list4 {α : Type} {cs : List α} (h : cs.length = 4) : ∃ c0 c1 c2 c3, cs = [c0, c1, c2, c3] := by
  match cs, h with
  | [c0, c1, c2, c3], _ => exact ⟨c0, c1, c2, c3, rfl⟩
theorem open_st4 {t : Nat} {f0 f1 f2 f3 : Field} {n : Nat} {cs : List Value} {x : DataW H × List MemPlace} (ht : P.underlying t = some (.struct #[f0, f1, f2, f3])) (hC : P.cellsOf t = 4) (ho : f0.offset = 0 ∧ f1.offset = 1 ∧ f2.offset = 2 ∧ f3.offset = 3) (h1 : P.cellsOf f0.type = 1 ∧ P.cellsOf f1.type = 1 ∧ P.cellsOf f2.type = 1 ∧ P.cellsOf f3.type = 1)
    (h : DataW.trod enc P w 0 (fun _ => true) true n t cs = some x) :
    ∃ (c0 c1 c2 c3 : Value) (y0 y1 y2 y3 : DataW H × List MemPlace) (m : Nat), cs = [c0, c1, c2, c3] ∧ DataW.trod enc P w 0 (fun _ => true) true m f0.type [c0] = some y0 ∧ DataW.trod enc P w 0 (fun _ => true) true m f1.type [c1] = some y1 ∧ DataW.trod enc P w 0 (fun _ => true) true m f2.type [c2] = some y2 ∧ DataW.trod enc P w 0 (fun _ => true) true m f3.type [c3] = some y3 := by
  obtain ⟨xs, m, _, _, hcl, hxl, hf⟩ := DataW.trod_struct ht h
  rw [hC] at hcl
  obtain ⟨c0, c1, c2, c3, rfl⟩ := list4 hcl
  obtain ⟨y0, y1, y2, y3, rfl⟩ := list4 (show xs.length = 4 from hxl)
  obtain ⟨o0, o1, o2, o3⟩ := ho
  obtain ⟨k0, k1, k2, k3⟩ := h1
  have e0 := hf 0 f0 rfl
  rw [o0, k0] at e0
  have e1 := hf 1 f1 rfl
  rw [o1, k1] at e1
  have e2 := hf 2 f2 rfl
  rw [o2, k2] at e2
  have e3 := hf 3 f3 rfl
  rw [o3, k3] at e3
  exact ⟨c0, c1, c2, c3, y0, y1, y2, y3, m, rfl, e0, e1, e2, e3⟩
theorem list5 {α : Type} {cs : List α} (h : cs.length = 5) : ∃ c0 c1 c2 c3 c4, cs = [c0, c1, c2, c3, c4] := by
  match cs, h with
  | [c0, c1, c2, c3, c4], _ => exact ⟨c0, c1, c2, c3, c4, rfl⟩
theorem open_st5 {t : Nat} {f0 f1 f2 f3 f4 : Field} {n : Nat} {cs : List Value} {x : DataW H × List MemPlace} (ht : P.underlying t = some (.struct #[f0, f1, f2, f3, f4])) (hC : P.cellsOf t = 5) (ho : f0.offset = 0 ∧ f1.offset = 1 ∧ f2.offset = 2 ∧ f3.offset = 3 ∧ f4.offset = 4) (h1 : P.cellsOf f0.type = 1 ∧ P.cellsOf f1.type = 1 ∧ P.cellsOf f2.type = 1 ∧ P.cellsOf f3.type = 1 ∧ P.cellsOf f4.type = 1)
    (h : DataW.trod enc P w 0 (fun _ => true) true n t cs = some x) :
    ∃ (c0 c1 c2 c3 c4 : Value) (y0 y1 y2 y3 y4 : DataW H × List MemPlace) (m : Nat), cs = [c0, c1, c2, c3, c4] ∧ DataW.trod enc P w 0 (fun _ => true) true m f0.type [c0] = some y0 ∧ DataW.trod enc P w 0 (fun _ => true) true m f1.type [c1] = some y1 ∧ DataW.trod enc P w 0 (fun _ => true) true m f2.type [c2] = some y2 ∧ DataW.trod enc P w 0 (fun _ => true) true m f3.type [c3] = some y3 ∧ DataW.trod enc P w 0 (fun _ => true) true m f4.type [c4] = some y4 := by
  obtain ⟨xs, m, _, _, hcl, hxl, hf⟩ := DataW.trod_struct ht h
  rw [hC] at hcl
  obtain ⟨c0, c1, c2, c3, c4, rfl⟩ := list5 hcl
  obtain ⟨y0, y1, y2, y3, y4, rfl⟩ := list5 (show xs.length = 5 from hxl)
  obtain ⟨o0, o1, o2, o3, o4⟩ := ho
  obtain ⟨k0, k1, k2, k3, k4⟩ := h1
  have e0 := hf 0 f0 rfl
  rw [o0, k0] at e0
  have e1 := hf 1 f1 rfl
  rw [o1, k1] at e1
  have e2 := hf 2 f2 rfl
  rw [o2, k2] at e2
  have e3 := hf 3 f3 rfl
  rw [o3, k3] at e3
  have e4 := hf 4 f4 rfl
  rw [o4, k4] at e4
  exact ⟨c0, c1, c2, c3, c4, y0, y1, y2, y3, y4, m, rfl, e0, e1, e2, e3, e4⟩
theorem list7 {α : Type} {cs : List α} (h : cs.length = 7) : ∃ c0 c1 c2 c3 c4 c5 c6, cs = [c0, c1, c2, c3, c4, c5, c6] := by
  match cs, h with
  | [c0, c1, c2, c3, c4, c5, c6], _ => exact ⟨c0, c1, c2, c3, c4, c5, c6, rfl⟩
theorem open_st7 {t : Nat} {f0 f1 f2 f3 f4 f5 f6 : Field} {n : Nat} {cs : List Value} {x : DataW H × List MemPlace} (ht : P.underlying t = some (.struct #[f0, f1, f2, f3, f4, f5, f6])) (hC : P.cellsOf t = 7) (ho : f0.offset = 0 ∧ f1.offset = 1 ∧ f2.offset = 2 ∧ f3.offset = 3 ∧ f4.offset = 4 ∧ f5.offset = 5 ∧ f6.offset = 6) (h1 : P.cellsOf f0.type = 1 ∧ P.cellsOf f1.type = 1 ∧ P.cellsOf f2.type = 1 ∧ P.cellsOf f3.type = 1 ∧ P.cellsOf f4.type = 1 ∧ P.cellsOf f5.type = 1 ∧ P.cellsOf f6.type = 1)
    (h : DataW.trod enc P w 0 (fun _ => true) true n t cs = some x) :
    ∃ (c0 c1 c2 c3 c4 c5 c6 : Value) (y0 y1 y2 y3 y4 y5 y6 : DataW H × List MemPlace) (m : Nat), cs = [c0, c1, c2, c3, c4, c5, c6] ∧ DataW.trod enc P w 0 (fun _ => true) true m f0.type [c0] = some y0 ∧ DataW.trod enc P w 0 (fun _ => true) true m f1.type [c1] = some y1 ∧ DataW.trod enc P w 0 (fun _ => true) true m f2.type [c2] = some y2 ∧ DataW.trod enc P w 0 (fun _ => true) true m f3.type [c3] = some y3 ∧ DataW.trod enc P w 0 (fun _ => true) true m f4.type [c4] = some y4 ∧ DataW.trod enc P w 0 (fun _ => true) true m f5.type [c5] = some y5 ∧ DataW.trod enc P w 0 (fun _ => true) true m f6.type [c6] = some y6 := by
  obtain ⟨xs, m, _, _, hcl, hxl, hf⟩ := DataW.trod_struct ht h
  rw [hC] at hcl
  obtain ⟨c0, c1, c2, c3, c4, c5, c6, rfl⟩ := list7 hcl
  obtain ⟨y0, y1, y2, y3, y4, y5, y6, rfl⟩ := list7 (show xs.length = 7 from hxl)
  obtain ⟨o0, o1, o2, o3, o4, o5, o6⟩ := ho
  obtain ⟨k0, k1, k2, k3, k4, k5, k6⟩ := h1
  have e0 := hf 0 f0 rfl
  rw [o0, k0] at e0
  have e1 := hf 1 f1 rfl
  rw [o1, k1] at e1
  have e2 := hf 2 f2 rfl
  rw [o2, k2] at e2
  have e3 := hf 3 f3 rfl
  rw [o3, k3] at e3
  have e4 := hf 4 f4 rfl
  rw [o4, k4] at e4
  have e5 := hf 5 f5 rfl
  rw [o5, k5] at e5
  have e6 := hf 6 f6 rfl
  rw [o6, k6] at e6
  exact ⟨c0, c1, c2, c3, c4, c5, c6, y0, y1, y2, y3, y4, y5, y6, m, rfl, e0, e1, e2, e3, e4, e5, e6⟩
theorem list11 {α : Type} {cs : List α} (h : cs.length = 11) : ∃ c0 c1 c2 c3 c4 c5 c6 c7 c8 c9 c10, cs = [c0, c1, c2, c3, c4, c5, c6, c7, c8, c9, c10] := by
  match cs, h with
  | [c0, c1, c2, c3, c4, c5, c6, c7, c8, c9, c10], _ => exact ⟨c0, c1, c2, c3, c4, c5, c6, c7, c8, c9, c10, rfl⟩
theorem open_st11 {t : Nat} {f0 f1 f2 f3 f4 f5 f6 f7 f8 f9 f10 : Field} {n : Nat} {cs : List Value} {x : DataW H × List MemPlace} (ht : P.underlying t = some (.struct #[f0, f1, f2, f3, f4, f5, f6, f7, f8, f9, f10])) (hC : P.cellsOf t = 11) (ho : f0.offset = 0 ∧ f1.offset = 1 ∧ f2.offset = 2 ∧ f3.offset = 3 ∧ f4.offset = 4 ∧ f5.offset = 5 ∧ f6.offset = 6 ∧ f7.offset = 7 ∧ f8.offset = 8 ∧ f9.offset = 9 ∧ f10.offset = 10) (h1 : P.cellsOf f0.type = 1 ∧ P.cellsOf f1.type = 1 ∧ P.cellsOf f2.type = 1 ∧ P.cellsOf f3.type = 1 ∧ P.cellsOf f4.type = 1 ∧ P.cellsOf f5.type = 1 ∧ P.cellsOf f6.type = 1 ∧ P.cellsOf f7.type = 1 ∧ P.cellsOf f8.type = 1 ∧ P.cellsOf f9.type = 1 ∧ P.cellsOf f10.type = 1)
    (h : DataW.trod enc P w 0 (fun _ => true) true n t cs = some x) :
    ∃ (c0 c1 c2 c3 c4 c5 c6 c7 c8 c9 c10 : Value) (y0 y1 y2 y3 y4 y5 y6 y7 y8 y9 y10 : DataW H × List MemPlace) (m : Nat), cs = [c0, c1, c2, c3, c4, c5, c6, c7, c8, c9, c10] ∧ DataW.trod enc P w 0 (fun _ => true) true m f0.type [c0] = some y0 ∧ DataW.trod enc P w 0 (fun _ => true) true m f1.type [c1] = some y1 ∧ DataW.trod enc P w 0 (fun _ => true) true m f2.type [c2] = some y2 ∧ DataW.trod enc P w 0 (fun _ => true) true m f3.type [c3] = some y3 ∧ DataW.trod enc P w 0 (fun _ => true) true m f4.type [c4] = some y4 ∧ DataW.trod enc P w 0 (fun _ => true) true m f5.type [c5] = some y5 ∧ DataW.trod enc P w 0 (fun _ => true) true m f6.type [c6] = some y6 ∧ DataW.trod enc P w 0 (fun _ => true) true m f7.type [c7] = some y7 ∧ DataW.trod enc P w 0 (fun _ => true) true m f8.type [c8] = some y8 ∧ DataW.trod enc P w 0 (fun _ => true) true m f9.type [c9] = some y9 ∧ DataW.trod enc P w 0 (fun _ => true) true m f10.type [c10] = some y10 := by
  obtain ⟨xs, m, _, _, hcl, hxl, hf⟩ := DataW.trod_struct ht h
  rw [hC] at hcl
  obtain ⟨c0, c1, c2, c3, c4, c5, c6, c7, c8, c9, c10, rfl⟩ := list11 hcl
  obtain ⟨y0, y1, y2, y3, y4, y5, y6, y7, y8, y9, y10, rfl⟩ := list11 (show xs.length = 11 from hxl)
  obtain ⟨o0, o1, o2, o3, o4, o5, o6, o7, o8, o9, o10⟩ := ho
  obtain ⟨k0, k1, k2, k3, k4, k5, k6, k7, k8, k9, k10⟩ := h1
  have e0 := hf 0 f0 rfl
  rw [o0, k0] at e0
  have e1 := hf 1 f1 rfl
  rw [o1, k1] at e1
  have e2 := hf 2 f2 rfl
  rw [o2, k2] at e2
  have e3 := hf 3 f3 rfl
  rw [o3, k3] at e3
  have e4 := hf 4 f4 rfl
  rw [o4, k4] at e4
  have e5 := hf 5 f5 rfl
  rw [o5, k5] at e5
  have e6 := hf 6 f6 rfl
  rw [o6, k6] at e6
  have e7 := hf 7 f7 rfl
  rw [o7, k7] at e7
  have e8 := hf 8 f8 rfl
  rw [o8, k8] at e8
  have e9 := hf 9 f9 rfl
  rw [o9, k9] at e9
  have e10 := hf 10 f10 rfl
  rw [o10, k10] at e10
  exact ⟨c0, c1, c2, c3, c4, c5, c6, c7, c8, c9, c10, y0, y1, y2, y3, y4, y5, y6, y7, y8, y9, y10, m, rfl, e0, e1, e2, e3, e4, e5, e6, e7, e8, e9, e10⟩
end
end Go.Proofs.YtheddnjhkcpmnaaDoor
