
/- Data with depth in memory: what is read, what is the call's own. No condition. -/
import Derived.Test.YtheddnjhkcpmnaaMem
import Derived.Test.YtheddnjhkcpmnaaBlk
set_option linter.unusedSimpArgs false
set_option linter.unusedVariables false
namespace Go.Proofs.Ytheddnjhkcpmnaa
open Go.RowKit

/-- what is left -/
def subL (left : Int) (t : Nat) : Int := if (t : Int) ≤ left then left - t else -1
theorem subL_yes {left : Int} {t : Nat} (h : (t : Int) ≤ left) : subL left t = left - t := if_pos h
theorem subL_no {left : Int} {t : Nat} (h : ¬ (t : Int) ≤ left) : subL left t = -1 := if_neg h
/-- the blocks from lo on, below hi, lie as they did -/
def KeptB (lo hi : Nat) (w w' : World) : Prop := ∀ k, lo ≤ k → k < hi → w'.heap[k]? = w.heap[k]?
theorem KeptB.refl (lo hi : Nat) (w : World) : KeptB lo hi w w := fun _ _ _ => rfl
theorem KeptB.trans {lo hi : Nat} {a b c : World} (h : KeptB lo hi a b) (k : KeptB lo hi b c) : KeptB lo hi a c := fun i h1 h2 => (k i h1 h2).trans (h i h1 h2)
theorem KeptB.mono {lo hi lo' hi' : Nat} {a b : World} (h : KeptB lo hi a b) (h1 : lo ≤ lo') (h2 : hi' ≤ hi) : KeptB lo' hi' a b := fun i g1 g2 => h i (by omega) (by omega)
theorem KeptB.setr {lo hi : Nat} {a b : World} (h : KeptB lo hi a b) {p : Addr} {u : Value} (hp : p.block < lo) : KeptB lo hi a (b.setCell p u) := fun i h1 h2 => (Below.heap_setCell b p u i (by omega)).trans (h i h1 h2)
theorem KeptB.below {lo hi B : Nat} {a b c : World} (h : KeptB lo hi a b) (hb : Below B b c) (hB : hi ≤ B) : KeptB lo hi a c := fun i h1 h2 => (hb.block i (by omega)).trans (h i h1 h2)
theorem KeptB.cell {lo hi : Nat} {a b : World} (h : KeptB lo hi a b) (p : Addr) (h1 : lo ≤ p.block) (h2 : p.block < hi) : b.cell? p = a.cell? p := World.cell?_of_block (h _ h1 h2)
/-- a reading that what lies between bears -/
structure Stable {α : Type} (R : World → Nat → Nat → List Value → α → Prop) : Prop where
  keep : ∀ {w w' : World} {lo hi : Nat} {cs : List Value} {x : α}, R w lo hi cs x → KeptB lo hi w w' → R w' lo hi cs x
  more : ∀ {w : World} {lo hi lo' hi' : Nat} {cs : List Value} {x : α}, R w lo hi cs x → lo' ≤ lo → hi ≤ hi' → R w lo' hi' cs x

/-- the slice value v has n elements; its cells, one behind the other, are cs; they lie from block lo on, below block hi -/
def Rg (w : World) (lo hi : Nat) (v : Value) (n : Nat) (cs : List Value) : Prop :=
  ∃ A c, v = .slice A n c ∧ n ≤ c ∧ c ≤ maxLen ∧ ∀ j u, cs[j]? = some u → ∃ b o, A = some ⟨b, o, none⟩ ∧ (lo ≤ b ∧ b < hi) ∧ w.cell? ⟨b, o + j, none⟩ = some u
section
variable {w w' : World} {lo hi lo' hi' n c : Nat} {v : Value} {A : Option Addr} {cs : List Value}
theorem Rg.rd (h : Rg w lo hi v n cs) : Rd w hi v n cs := by
  obtain ⟨A, c, e, h1, h2, hc⟩ := h
  refine ⟨A, c, e, h1, h2, fun j u hu => ?_⟩
  obtain ⟨b, o, hA, hb, hcell⟩ := hc j u hu
  exact ⟨b, o, hA, hb.2, hcell⟩
theorem Rd.rg (h : Rd w hi v n cs) : Rg w 0 hi v n cs := by
  obtain ⟨A, c, e, h1, h2, hc⟩ := h
  refine ⟨A, c, e, h1, h2, fun j u hu => ?_⟩
  obtain ⟨b, o, hA, hb, hcell⟩ := hc j u hu
  exact ⟨b, o, hA, ⟨Nat.zero_le _, hb⟩, hcell⟩
theorem Rg.keep (h : Rg w lo hi v n cs) (hk : KeptB lo hi w w') : Rg w' lo hi v n cs := by
  obtain ⟨A, c, e, h1, h2, hc⟩ := h
  refine ⟨A, c, e, h1, h2, fun j u hu => ?_⟩
  obtain ⟨b, o, hA, hb, hcell⟩ := hc j u hu
  exact ⟨b, o, hA, hb, (hk.cell _ hb.1 hb.2).trans hcell⟩
theorem Rg.more (h : Rg w lo hi v n cs) (h1 : lo' ≤ lo) (h2 : hi ≤ hi') : Rg w lo' hi' v n cs := by
  obtain ⟨A, c, e, g1, g2, hc⟩ := h
  refine ⟨A, c, e, g1, g2, fun j u hu => ?_⟩
  obtain ⟨b, o, hA, hb, hcell⟩ := hc j u hu
  exact ⟨b, o, hA, ⟨by omega, by omega⟩, hcell⟩
theorem Rg.form (h : Rg w lo hi v n cs) : ∃ A c, v = .slice A n c := by
  obtain ⟨A, c, e, _⟩ := h
  exact ⟨A, c, e⟩
theorem Rg.long (h : Rg w lo hi v n cs) : n ≤ 9223372036854775807 := by
  obtain ⟨A, c, e, g1, g2, hc⟩ := h
  unfold maxLen at g2; omega
theorem Rg.here (h : Rg w 0 w.heap.size v n cs) (hb : Below w.heap.size w w') : Rg w' 0 w'.heap.size v n cs := ((h.keep ((KeptB.refl _ _ _).below hb (Nat.le_refl _))).more (Nat.le_refl _) hb.size)
theorem Rg.of_own {base : Nat} {e : TypeId} {size : Nat} (h : w.ownsRow base e size v n cs) : Rg w base w.heap.size v n cs := by
  rcases h.2 with ⟨rfl, rfl⟩ | ⟨g, cap, cur, rfl, hg, hh, hn, hc, _⟩
  · refine ⟨_, _, rfl, Nat.le_refl _, by unfold maxLen; omega, fun j u hu => ?_⟩
    have := h.1
    simp at this
    subst this
    simp at hu
  · refine ⟨_, _, rfl, hn, hc, fun j u hu => ?_⟩
    have := h.cells (g := g) rfl j u hu
    have hp : ((⟨g, 0, none⟩ : Addr).add j) = ⟨g, 0 + j, none⟩ := by unfold Addr.add; split <;> simp_all
    rw [hp] at this
    exact ⟨g, 0, rfl, ⟨hg, (Array.getElem?_eq_some_iff.1 hh).1⟩, this⟩
end

/-- a slice of structs of so many cells, of which each reads so -/
def RL {α : Type} (R : World → Nat → Nat → List Value → α → Prop) (size : Nat) (w : World) (lo hi : Nat) (v : Value) (l : List α) : Prop :=
  ∃ A c, v = .slice A l.length c ∧ l.length ≤ c ∧ c ≤ maxLen ∧ ∀ i (h : i < l.length), ∃ b o cs, A = some ⟨b, o, none⟩ ∧ (lo ≤ b ∧ b < hi) ∧ cs.length = size ∧
    (∀ k u, cs[k]? = some u → w.cell? ⟨b, o + i * size + k, none⟩ = some u) ∧ R w lo hi cs l[i]
section
variable {α : Type} {R : World → Nat → Nat → List Value → α → Prop} {size : Nat} {w w' : World} {lo hi lo' hi' : Nat} {v : Value} {l : List α}
theorem RL.keep (hR : Stable R) (h : RL R size w lo hi v l) (hk : KeptB lo hi w w') : RL R size w' lo hi v l := by
  obtain ⟨A, c, e, h1, h2, hc⟩ := h
  refine ⟨A, c, e, h1, h2, fun i hi' => ?_⟩
  obtain ⟨b, o, cs, hA, hb, hl, hcell, hr⟩ := hc i hi'
  exact ⟨b, o, cs, hA, hb, hl, fun k u hu => (hk.cell _ hb.1 hb.2).trans (hcell k u hu), hR.keep hr hk⟩
theorem RL.more (hR : Stable R) (h : RL R size w lo hi v l) (h1 : lo' ≤ lo) (h2 : hi ≤ hi') : RL R size w lo' hi' v l := by
  obtain ⟨A, c, e, g1, g2, hc⟩ := h
  refine ⟨A, c, e, g1, g2, fun i hi'' => ?_⟩
  obtain ⟨b, o, cs, hA, hb, hl, hcell, hr⟩ := hc i hi''
  exact ⟨b, o, cs, hA, ⟨by omega, by omega⟩, hl, hcell, hR.more hr h1 h2⟩
theorem RL.here (hR : Stable R) (h : RL R size w 0 w.heap.size v l) (hb : Below w.heap.size w w') : RL R size w' 0 w'.heap.size v l := ((h.keep hR ((KeptB.refl _ _ _).below hb (Nat.le_refl _))).more hR (Nat.le_refl _) hb.size)
theorem Stable.here (hR : Stable R) {cs : List Value} {x : α} (h : R w 0 w.heap.size cs x) (hb : Below w.heap.size w w') : R w' 0 w'.heap.size cs x := hR.more (hR.keep h ((KeptB.refl _ _ _).below hb (Nat.le_refl _))) (Nat.le_refl _) hb.size
theorem RL.form (h : RL R size w lo hi v l) : ∃ A c, v = .slice A l.length c := by
  obtain ⟨A, c, e, _⟩ := h
  exact ⟨A, c, e⟩
theorem RL.at_ {A : Option Addr} {c i : Nat} (h : RL R size w lo hi (.slice A l.length c) l) (hi' : i < l.length) :
    ∃ b o cs, A = some ⟨b, o, none⟩ ∧ (lo ≤ b ∧ b < hi) ∧ cs.length = size ∧ (∀ k u, cs[k]? = some u → w.cell? ⟨b, o + i * size + k, none⟩ = some u) ∧ R w lo hi cs l[i] := by
  obtain ⟨A', c', e, _, _, hc⟩ := h
  injection e with e1 e2 e3
  subst e1
  exact hc i hi'
theorem RL.nil : RL R size w lo hi (.slice none 0 0) [] := ⟨none, 0, rfl, Nat.le_refl _, by unfold maxLen; omega, fun i h => by simp at h⟩
theorem RL.long (h : RL R size w lo hi v l) : l.length ≤ 9223372036854775807 := by
  obtain ⟨A, c, e, g1, g2, hc⟩ := h
  unfold maxLen at g2; omega
end

/-- a number or a bool -/
def sc : Value → Prop
  | .int .i64 _ => True
  | .bool _ => True
  | _ => False
/-- a slice of the call's own, of numbers and bools alone -/
def Og (w : World) (lo hi : Nat) (e : TypeId) (size : Nat) (v : Value) (n : Nat) : Prop := ∃ xs, w.ownsRow lo e size v n xs ∧ (∀ k, v.ownBlock = some k → k < hi) ∧ ∀ x ∈ xs, sc x
/-- a slice of the call's own, of structs -/
def OL {α : Type} (O : World → Nat → Nat → List Value → α → Prop) (e : TypeId) (size : Nat) (w : World) (lo hi : Nat) (v : Value) (l : List α) : Prop :=
  ∃ xs, w.ownsRow lo e size v l.length xs ∧ (∀ k, v.ownBlock = some k → k < hi) ∧ ∀ i (h : i < l.length), ∃ cs : List Value, cs.length = size ∧ (∀ j, j < size → xs[i * size + j]? = cs[j]?) ∧ O w lo hi cs l[i]
theorem own_keptB {w w' : World} {lo hi n : Nat} {e : TypeId} {size : Nat} {v : Value} {xs : List Value} (h : w.ownsRow lo e size v n xs) (hh : ∀ k, v.ownBlock = some k → k < hi) (hk : KeptB lo hi w w') : w'.ownsRow lo e size v n xs := by
  refine ⟨h.1, ?_⟩
  rcases h.2 with hn | ⟨g, cap, cur, hv, hg, hb, r⟩
  · exact .inl hn
  · exact .inr ⟨g, cap, cur, hv, hg, (hk g hg (hh g (by rw [hv]; rfl))).trans hb, r⟩
section
variable {w w' : World} {lo hi lo' hi' n : Nat} {e : TypeId} {size : Nat} {v : Value}
theorem Og.keep (h : Og w lo hi e size v n) (hk : KeptB lo hi w w') : Og w' lo hi e size v n := by
  obtain ⟨xs, ho, hh, hs⟩ := h
  exact ⟨xs, own_keptB ho hh hk, hh, hs⟩
theorem Og.more (h : Og w lo hi e size v n) (h1 : lo' ≤ lo) (h2 : hi ≤ hi') : Og w lo' hi' e size v n := by
  obtain ⟨xs, ho, hh, hs⟩ := h
  exact ⟨xs, own_base ho h1, fun k hk => Nat.lt_of_lt_of_le (hh k hk) h2, hs⟩
theorem Og.of_own {xs : List Value} (h : w.ownsRow lo e size v n xs) (hs : ∀ x ∈ xs, sc x) : Og w lo w.heap.size e size v n := ⟨xs, h, fun k hk => (h.lt k hk).2, hs⟩
theorem sc_icells {l : List Int} : ∀ x ∈ icells .i64 l, sc x := by intro x hx; obtain ⟨z, _, rfl⟩ := List.mem_map.1 hx; trivial
section
variable {α : Type} {O : World → Nat → Nat → List Value → α → Prop} {l : List α}
theorem OL.keep (hO : Stable O) (h : OL O e size w lo hi v l) (hk : KeptB lo hi w w') : OL O e size w' lo hi v l := by
  obtain ⟨xs, ho, hh, hs⟩ := h
  refine ⟨xs, own_keptB ho hh hk, hh, fun i hi' => ?_⟩
  obtain ⟨cs, h1, h2, h3⟩ := hs i hi'
  exact ⟨cs, h1, h2, hO.keep h3 hk⟩
theorem OL.more (hO : Stable O) (h : OL O e size w lo hi v l) (h1 : lo' ≤ lo) (h2 : hi ≤ hi') : OL O e size w lo' hi' v l := by
  obtain ⟨xs, ho, hh, hs⟩ := h
  refine ⟨xs, own_base ho h1, fun k hk => Nat.lt_of_lt_of_le (hh k hk) h2, fun i hi'' => ?_⟩
  obtain ⟨cs, g1, g2, g3⟩ := hs i hi''
  exact ⟨cs, g1, g2, hO.more g3 h1 h2⟩
end
end
theorem below_box3 {w w1 : World} {a b c : Obj} (hb : Below (((w.alloc a).alloc b).alloc c).heap.size (((w.alloc a).alloc b).alloc c) w1) : Below w.heap.size w w1 := by
  refine ((((Below.refl _ _).alloc (Nat.le_refl _) _).alloc ?_ _).alloc ?_ _).trans (hb.mono ?_)
  · rw [World.size_alloc]; omega
  · rw [World.size_alloc, World.size_alloc]; omega
  · rw [World.size_alloc, World.size_alloc, World.size_alloc]; omega
/-- the two blocks of a function that takes two structs -/
theorem two_below {w w1 : World} {a b : Array Value} {ta tb : TypeId} (hb : Below ((w.alloc (.cells a ta)).alloc (.cells b tb)).heap.size ((w.alloc (.cells a ta)).alloc (.cells b tb)) w1) :
    Bk w1 w.heap.size ta a ∧ Bk w1 (w.heap.size + 1) tb b ∧ w.heap.size + 1 < w1.heap.size ∧ Below w.heap.size w w1 := by
  have e1 : (w.alloc (.cells a ta)).heap.size = w.heap.size + 1 := World.size_alloc _ _
  have e2 : ((w.alloc (.cells a ta)).alloc (.cells b tb)).heap.size = w.heap.size + 1 + 1 := by rw [World.size_alloc, e1]
  have k1 := (Bk.new w ta a).alloc (.cells b tb)
  have k2 := Bk.new (w.alloc (.cells a ta)) tb b
  rw [e1] at k2
  have hs := hb.size
  rw [e2] at hs
  refine ⟨k1.below hb, k2.below hb, by omega, ((((Below.refl _ _).alloc (Nat.le_refl _) _).alloc ?_ _).trans (hb.mono ?_))⟩
  · rw [World.size_alloc]; omega
  · rw [World.size_alloc, World.size_alloc]; omega
theorem one_below {w w1 : World} {a : Array Value} {ta : TypeId} (hb : Below (w.alloc (.cells a ta)).heap.size (w.alloc (.cells a ta)) w1) :
    Bk w1 w.heap.size ta a ∧ w.heap.size < w1.heap.size ∧ Below w.heap.size w w1 := by
  have e1 : (w.alloc (.cells a ta)).heap.size = w.heap.size + 1 := World.size_alloc _ _
  have hs := hb.size
  rw [e1] at hs
  refine ⟨(Bk.new w ta a).below hb, by omega, ((Below.refl _ _).alloc (Nat.le_refl _) _).trans (hb.mono ?_)⟩
  rw [World.size_alloc]; omega
/-- the three blocks of a function that takes and returns a struct -/
theorem three_below {w w1 : World} {a b c : Array Value} {ta tb tc : TypeId} (hb : Below (((w.alloc (.cells a ta)).alloc (.cells b tb)).alloc (.cells c tc)).heap.size (((w.alloc (.cells a ta)).alloc (.cells b tb)).alloc (.cells c tc)) w1) :
    Bk w1 w.heap.size ta a ∧ Bk w1 (w.heap.size + 1) tb b ∧ Bk w1 (w.heap.size + 1 + 1) tc c ∧ w.heap.size + 1 + 1 < w1.heap.size ∧ Below w.heap.size w w1 := by
  have e1 : (w.alloc (.cells a ta)).heap.size = w.heap.size + 1 := World.size_alloc _ _
  have e2 : ((w.alloc (.cells a ta)).alloc (.cells b tb)).heap.size = w.heap.size + 1 + 1 := by rw [World.size_alloc, e1]
  have e3 : (((w.alloc (.cells a ta)).alloc (.cells b tb)).alloc (.cells c tc)).heap.size = w.heap.size + 1 + 1 + 1 := by rw [World.size_alloc, e2]
  have k1 := ((Bk.new w ta a).alloc (.cells b tb)).alloc (.cells c tc)
  have k2 := (Bk.new (w.alloc (.cells a ta)) tb b).alloc (.cells c tc)
  have k3 := Bk.new ((w.alloc (.cells a ta)).alloc (.cells b tb)) tc c
  rw [e1] at k2
  rw [e2] at k3
  have hs := hb.size
  rw [e3] at hs
  exact ⟨k1.below hb, k2.below hb, k3.below hb, by omega, below_box3 hb⟩
end Go.Proofs.Ytheddnjhkcpmnaa
