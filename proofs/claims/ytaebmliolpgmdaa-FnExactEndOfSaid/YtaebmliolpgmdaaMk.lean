
/- Marking data of the call's own: what stays as it was. No condition. -/
import Derived.Test.YtaebmliolpgmdaaNst
import Derived.Test.YtaebmliolpgmdaaSl6
import Derived.Test.YtaebmliolpgmdaaBlk
set_option linter.unusedSimpArgs false
set_option linter.unusedVariables false
set_option maxRecDepth 100000
namespace Go.Proofs.Ytaebmliolpgmdaa
open Go.RowKit

/-- numbers and bools of blocks from lo on, below hi, were overwritten by such, and nothing else was -/
structure MkW (lo hi : Nat) (w w' : World) : Prop where
  below : Below lo w w'
  kept : ∀ k, hi ≤ k → w'.heap[k]? = w.heap[k]?
  rows : ∀ base e size v n xs, w.ownsRow base e size v n xs → ∃ xs', w'.ownsRow base e size v n xs' ∧ ∀ (j : Nat) (u : Value), xs[j]? = some u → (sc u → ∃ u', xs'[j]? = some u' ∧ sc u') ∧ (¬ sc u → xs'[j]? = some u)
  cells : ∀ (g j : Nat) (u : Value), w.cell? ⟨g, j, none⟩ = some u → ¬ sc u → w'.cell? ⟨g, j, none⟩ = some u
theorem MkW.refl (lo hi : Nat) (w : World) : MkW lo hi w w := ⟨Below.refl _ _, fun _ _ => rfl, fun _ _ _ _ _ xs h => ⟨xs, h, fun j u hu => ⟨fun hs => ⟨u, hu, hs⟩, fun _ => hu⟩⟩, fun _ _ _ h _ => h⟩
theorem MkW.trans {lo hi : Nat} {a b c : World} (h : MkW lo hi a b) (k : MkW lo hi b c) : MkW lo hi a c :=
  ⟨h.below.trans k.below, fun i hi' => (k.kept i hi').trans (h.kept i hi'), fun base e size v n xs ho => by
    obtain ⟨ys, h1, h2⟩ := h.rows _ _ _ _ _ _ ho
    obtain ⟨zs, k1, k2⟩ := k.rows _ _ _ _ _ _ h1
    refine ⟨zs, k1, fun j u hu => ⟨fun hs => ?_, fun hs => ?_⟩⟩
    · obtain ⟨u', e1, s1⟩ := (h2 j u hu).1 hs
      exact (k2 j u' e1).1 s1
    · exact (k2 j u ((h2 j u hu).2 hs)).2 hs, fun g j u hu hs => k.cells g j u (h.cells g j u hu hs) hs⟩
theorem add_none (g j : Nat) : ((⟨g, 0, none⟩ : Addr).add j) = ⟨g, j, none⟩ := by unfold Addr.add; split <;> simp_all
theorem MkW.set {lo hi : Nat} {w w1 : World} (h : MkW lo hi w w1) {g j : Nat} {u0 u : Value} (h1 : lo ≤ g) (h2 : g < hi) (hc : w1.cell? ⟨g, j, none⟩ = some u0) (s0 : sc u0) (s : sc u) : MkW lo hi w (w1.setCell ⟨g, j, none⟩ u) := by
  refine h.trans ⟨(Below.refl _ _).setCell (p := ⟨g, j, none⟩) h1 _, fun k hk => Below.heap_setCell _ _ _ _ (by dsimp only; omega), fun base e size v n xs ho => ?_, fun g' j' u' hu hs => ?_⟩
  · by_cases hv : v.ownBlock = some g
    · obtain ⟨A, c, rfl⟩ := own_form ho
      have hform : A = some ⟨g, 0, none⟩ := by
        rcases ho.2 with ⟨e1, _⟩ | ⟨g', cap, cur, e1, _⟩
        · injection e1 with e1 _ _; subst e1; simp [Value.ownBlock] at hv
        · injection e1 with e1 _ _; subst e1; simp [Value.ownBlock] at hv; rw [hv]
      subst hform
      refine ⟨_, own_set ho j u, fun i x hx => ?_⟩
      by_cases e1 : i = j
      · subst e1
        have hcell := ho.cells (g := g) rfl i x hx
        rw [add_none, hc] at hcell
        injection hcell with hcell
        subst hcell
        refine ⟨fun _ => ⟨u, ?_, s⟩, fun hn => absurd s0 hn⟩
        rw [List.getElem?_set_self (by exact (List.getElem?_eq_some_iff.1 hx).1)]
      · rw [List.getElem?_set_ne (by omega)]
        exact ⟨fun hs => ⟨x, hx, hs⟩, fun _ => hx⟩
    · exact ⟨xs, own_far ho u (fun k hk => by rintro rfl; exact hv hk), fun i x hx => ⟨fun hs => ⟨x, hx, hs⟩, fun _ => hx⟩⟩
  · by_cases e1 : (⟨g', j', none⟩ : Addr) = ⟨g, j, none⟩
    · rw [e1, hc] at hu
      injection hu with hu
      subst hu
      exact absurd s0 hs
    · exact (World.cell?_setCell_other _ _ _ _ (fun h => e1 h.symm)).trans hu
theorem MkW.mono {lo hi lo' hi' : Nat} {w w' : World} (h : MkW lo hi w w') (h1 : lo' ≤ lo) (h2 : hi ≤ hi') : MkW lo' hi' w w' := ⟨h.below.mono h1, fun k hk => h.kept k (by omega), h.rows, h.cells⟩
theorem MkW.size {lo hi : Nat} {w w' : World} (h : MkW lo hi w w') : w.heap.size ≤ w'.heap.size := h.below.size
/-- a slice of numbers and bools stays one -/
theorem Og.mk {lo hi lo' hi' n size : Nat} {e : TypeId} {v : Value} {w w' : World} (h : Og w lo hi e size v n) (hm : MkW lo' hi' w w') : Og w' lo hi e size v n := by
  obtain ⟨xs, ho, hh, hs⟩ := h
  obtain ⟨xs', h1, h2⟩ := hm.rows _ _ _ _ _ _ ho
  refine ⟨xs', h1, hh, fun x hx => ?_⟩
  obtain ⟨j, hj, rfl⟩ := List.getElem_of_mem hx
  have hj' : j < xs.length := by rw [ho.1]; rw [h1.1] at hj; exact hj
  obtain ⟨u', e1, s1⟩ := (h2 j (xs[j]'hj') (List.getElem?_eq_getElem hj')).1 (hs _ (List.getElem_mem _))
  rw [List.getElem?_eq_getElem hj] at e1
  injection e1 with e1
  rw [e1]; exact s1
/-- what is not of lo to hi is read as before -/
theorem MkW.keptB {lo hi n : Nat} {w w' : World} (h : MkW lo hi w w') : KeptB hi n w w' := fun k hk _ => h.kept k hk
theorem MkW.keptBelow {lo hi : Nat} {w w' : World} (h : MkW lo hi w w') : KeptB 0 lo w w' := fun k _ hk => h.below.block k hk
/-- cells of an element: the scalars are such still, the others are the same -/
def ScEq (cs cs' : List Value) : Prop := cs'.length = cs.length ∧ ∀ (j : Nat) (u : Value), cs[j]? = some u → (sc u → ∃ u', cs'[j]? = some u' ∧ sc u') ∧ (¬ sc u → cs'[j]? = some u)
theorem nsc {A : Option Addr} {n c : Nat} : ¬ sc (.slice A n c) := fun h => h
theorem Og.nsc {w : World} {lo hi n size : Nat} {e : TypeId} {v : Value} (h : Og w lo hi e size v n) : ¬ sc v := by
  obtain ⟨xs, ho, _, _⟩ := h
  obtain ⟨A, c, rfl⟩ := own_form ho
  exact fun h => h
/-- an own slice of structs, under a mark -/
theorem OL.mk {α : Type} {O : World → Nat → Nat → List Value → α → Prop} {e : TypeId} {size lo hi lo' hi' : Nat} {w w' : World} {v : Value} {l : List α} (h : OL O e size w lo hi v l) (hm : MkW lo' hi' w w')
    (hO : ∀ cs cs' m, O w lo hi cs m → ScEq cs cs' → O w' lo hi cs' m) : OL O e size w' lo hi v l := by
  obtain ⟨xs, ho, hh, hel⟩ := h
  obtain ⟨xs', h1, h2⟩ := hm.rows _ _ _ _ _ _ ho
  refine ⟨xs', h1, hh, fun i hi => ?_⟩
  obtain ⟨cs, c1, c2, c3⟩ := hel i hi
  have hb : (i + 1) * size ≤ l.length * size := Nat.mul_le_mul_right _ hi
  rw [Nat.add_mul, Nat.one_mul] at hb
  refine ⟨(xs'.drop (i * size)).take size, by rw [List.length_take, List.length_drop, h1.1]; omega, fun j hj => by rw [List.getElem?_take_of_lt hj, List.getElem?_drop], hO cs _ _ c3 ⟨by rw [List.length_take, List.length_drop, h1.1, c1]; omega, fun j u hu => ?_⟩⟩
  have hj : j < size := by rw [← c1]; exact (List.getElem?_eq_some_iff.1 hu).1
  rw [List.getElem?_take_of_lt hj, List.getElem?_drop]
  exact h2 (i * size + j) u (by rw [c2 j hj]; exact hu)
theorem OL.nsc {α : Type} {O : World → Nat → Nat → List Value → α → Prop} {e : TypeId} {size lo hi : Nat} {w : World} {v : Value} {l : List α} (h : OL O e size w lo hi v l) : ¬ sc v := by
  obtain ⟨xs, ho, _, _⟩ := h
  obtain ⟨A, c, rfl⟩ := own_form ho
  exact fun h => h
/-- the form of an own slice of structs that has an element, and its cells -/
theorem OL.cell {α : Type} {O : World → Nat → Nat → List Value → α → Prop} {e : TypeId} {size lo hi : Nat} {w : World} {v : Value} {l : List α} (h : OL O e size w lo hi v l) {k : Nat} (hk : k < l.length) (h0 : 0 < size) :
    ∃ (g cap : Nat) (cs : List Value), v = .slice (some ⟨g, 0, none⟩) l.length cap ∧ lo ≤ g ∧ g < hi ∧ cs.length = size ∧ (∀ (j : Nat) (u : Value), cs[j]? = some u → w.cell? ⟨g, k * size + j, none⟩ = some u ∧ w.frozen? ⟨g, k * size + j, none⟩ = false) ∧ O w lo hi cs l[k] := by
  obtain ⟨xs, ho, hh, hel⟩ := h
  obtain ⟨g, cap, rfl⟩ := own_some ho (by omega)
  obtain ⟨cs, c1, c2, c3⟩ := hel k hk
  have hb : (k + 1) * size ≤ l.length * size := Nat.mul_le_mul_right _ hk
  rw [Nat.add_mul, Nat.one_mul] at hb
  refine ⟨g, cap, cs, rfl, (ho.lt g rfl).1, hh g rfl, c1, fun j u hu => ?_, c3⟩
  have hj : j < size := by rw [← c1]; exact (List.getElem?_eq_some_iff.1 hu).1
  rw [ho.cellAt (k * size + j) (by omega), c2 j hj]
  exact ⟨hu, ho.frozenAt _⟩
/-- the cell of an own slice of numbers and bools -/
theorem Og.cell {w : World} {lo hi n size cap g j : Nat} {e : TypeId} (h : Og w lo hi e size (.slice (some ⟨g, 0, none⟩) n cap) n) (hj : j < n * size) : ∃ u, w.cell? ⟨g, j, none⟩ = some u ∧ sc u ∧ w.frozen? ⟨g, j, none⟩ = false ∧ lo ≤ g ∧ g < hi := by
  obtain ⟨xs, ho, hh, hs⟩ := h
  have hl := ho.1
  refine ⟨xs[j]'(by omega), by rw [ho.cellAt j hj, List.getElem?_eq_getElem], hs _ (List.getElem_mem _), ho.frozenAt _, (ho.lt g rfl).1, hh g rfl⟩
theorem Og.form {w : World} {lo hi n size : Nat} {e : TypeId} {v : Value} (h : Og w lo hi e size v n) : (v = .slice none 0 0 ∧ n = 0) ∨ ∃ g cap, v = .slice (some ⟨g, 0, none⟩) n cap := by
  obtain ⟨xs, ho, hh, hs⟩ := h
  rcases ho.2 with h | ⟨g, cap, cur, h, _⟩
  · exact .inl h
  · exact .inr ⟨g, cap, h⟩
theorem Og.long {w : World} {lo hi n size : Nat} {e : TypeId} {v : Value} (h : Og w lo hi e size v n) : n ≤ 9223372036854775807 := by
  obtain ⟨xs, ho, hh, hs⟩ := h
  rcases ho.2 with ⟨_, h⟩ | ⟨g, cap, cur, h, _, _, h1, h2, _⟩
  · omega
  · unfold maxLen at h2; omega
theorem OL.form {α : Type} {O : World → Nat → Nat → List Value → α → Prop} {e : TypeId} {size lo hi : Nat} {w : World} {v : Value} {l : List α} (h : OL O e size w lo hi v l) : (v = .slice none 0 0 ∧ l.length = 0) ∨ ∃ g cap, v = .slice (some ⟨g, 0, none⟩) l.length cap := by
  obtain ⟨xs, ho, hh, hs⟩ := h
  rcases ho.2 with h | ⟨g, cap, cur, h, _⟩
  · exact .inl h
  · exact .inr ⟨g, cap, h⟩
end Go.Proofs.Ytaebmliolpgmdaa
