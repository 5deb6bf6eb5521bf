
/- Data with depth in memory: what is read, what is the call's own. No condition. -/
import Derived.Test.YtgkjakoagdkpcaaGreatDoorMem
import Derived.Test.YtgkjakoagdkpcaaGreatDoorBlk
import Derived.Test.YtgkjakoagdkpcaaGreatDoorKit
import Derived.Test.YtgkjakoagdkpcaaGreatDoorChecked
import Derived.Handy
import Derived.Deep.Light
import Derived.Deep.QuietTactic
import Derived.BigQuiet
import Derived.StillTailTactics
import Derived.Deep.RegionWith
set_option linter.unusedSimpArgs false
set_option linter.unusedVariables false
namespace Go.Proofs.YtgkjakoagdkpcaaGreatDoor
open Go.RowKit

/-- what is left -/
def subL (left : Int) (t : Nat) : Int := if (t : Int) ≤ left then left - t else -1
theorem subL_yes {left : Int} {t : Nat} (h : (t : Int) ≤ left) : subL left t = left - t := if_pos h
theorem subL_no {left : Int} {t : Nat} (h : ¬ (t : Int) ≤ left) : subL left t = -1 := if_neg h
/-- the blocks from lo on, below hi, lie as they did -/
def KeptB (lo hi : Nat) (w w' : World) : Prop := ∀ k, lo ≤ k → k < hi → w'.heap[k]? = w.heap[k]?
theorem KeptB.refl (lo hi : Nat) (w : World) : KeptB lo hi w w := fun _ _ _ => rfl
theorem KeptB.trans {lo hi : Nat} {a b c : World} (h : KeptB lo hi a b) (k : KeptB lo hi b c) : KeptB lo hi a c := fun i h1 h2 => (k i h1 h2).trans (h i h1 h2)
theorem KeptB.mono {lo hi lo' hi' : Nat} {a b : World} (h : KeptB lo hi a b) (h1 : lo ≤ lo') (h2 : hi' ≤ hi) : KeptB lo' hi' a b := fun i g1 g2 => h i (by omega) (by omega)
theorem KeptB.setr {lo hi : Nat} {a b : World} (h : KeptB lo hi a b) {p : Addr} {u : Value} (hp : p.block < lo) : KeptB lo hi a (b.setCell p u) := fun i h1 h2 => (Below.heap_setCell b p u i (by omega)).trans (h i h1 h2)
theorem KeptB.below {lo hi B : Nat} {a b c : World} (h : KeptB lo hi a b) (hb : Below B b c) (hB : hi ≤ B) : KeptB lo hi a c := fun i h1 h2 => (hb.block i (by omega)).trans (h i h1 h2)
theorem KeptB.cell {lo hi : Nat} {a b : World} (h : KeptB lo hi a b) (p : Addr) (h1 : lo ≤ p.block) (h2 : p.block < hi) : b.cell? p = a.cell? p := World.cell?_of_block (h _ h1 h2)
/-- a reading that what lies between bears -/
structure Stable {α : Type} (R : World → Nat → Nat → List Value → α → Prop) : Prop where
  keep : ∀ {w w' : World} {lo hi : Nat} {cs : List Value} {x : α}, R w lo hi cs x → KeptB lo hi w w' → R w' lo hi cs x
  more : ∀ {w : World} {lo hi lo' hi' : Nat} {cs : List Value} {x : α}, R w lo hi cs x → lo' ≤ lo → hi ≤ hi' → R w lo' hi' cs x

/-- the slice value v has n elements; its cells, one behind the other, are cs; they lie from block lo on, below block hi -/
def Rg (w : World) (lo hi : Nat) (v : Value) (n : Nat) (cs : List Value) : Prop :=
  ∃ A c, v = .slice A n c ∧ n ≤ c ∧ c ≤ maxLen ∧ ∀ j u, cs[j]? = some u → ∃ b o, A = some ⟨b, o, none⟩ ∧ (lo ≤ b ∧ b < hi) ∧ w.cell? ⟨b, o + j, none⟩ = some u
section
variable {w w' : World} {lo hi lo' hi' n c : Nat} {v : Value} {A : Option Addr} {cs : List Value}
theorem Rg.rd (h : Rg w lo hi v n cs) : Rd w hi v n cs := by
  obtain ⟨A, c, e, h1, h2, hc⟩ := h
  refine ⟨A, c, e, h1, h2, fun j u hu => ?_⟩
  obtain ⟨b, o, hA, hb, hcell⟩ := hc j u hu
  exact ⟨b, o, hA, hb.2, hcell⟩
theorem Rd.rg (h : Rd w hi v n cs) : Rg w 0 hi v n cs := by
  obtain ⟨A, c, e, h1, h2, hc⟩ := h
  refine ⟨A, c, e, h1, h2, fun j u hu => ?_⟩
  obtain ⟨b, o, hA, hb, hcell⟩ := hc j u hu
  exact ⟨b, o, hA, ⟨Nat.zero_le _, hb⟩, hcell⟩
theorem Rg.keep (h : Rg w lo hi v n cs) (hk : KeptB lo hi w w') : Rg w' lo hi v n cs := by
  obtain ⟨A, c, e, h1, h2, hc⟩ := h
  refine ⟨A, c, e, h1, h2, fun j u hu => ?_⟩
  obtain ⟨b, o, hA, hb, hcell⟩ := hc j u hu
  exact ⟨b, o, hA, hb, (hk.cell _ hb.1 hb.2).trans hcell⟩
theorem Rg.more (h : Rg w lo hi v n cs) (h1 : lo' ≤ lo) (h2 : hi ≤ hi') : Rg w lo' hi' v n cs := by
  obtain ⟨A, c, e, g1, g2, hc⟩ := h
  refine ⟨A, c, e, g1, g2, fun j u hu => ?_⟩
  obtain ⟨b, o, hA, hb, hcell⟩ := hc j u hu
  exact ⟨b, o, hA, ⟨by omega, by omega⟩, hcell⟩
theorem Rg.form (h : Rg w lo hi v n cs) : ∃ A c, v = .slice A n c := by
  obtain ⟨A, c, e, _⟩ := h
  exact ⟨A, c, e⟩
theorem Rg.long (h : Rg w lo hi v n cs) : n ≤ 9223372036854775807 := by
  obtain ⟨A, c, e, g1, g2, hc⟩ := h
  unfold maxLen at g2; omega
theorem Rg.here (h : Rg w 0 w.heap.size v n cs) (hb : Below w.heap.size w w') : Rg w' 0 w'.heap.size v n cs := ((h.keep ((KeptB.refl _ _ _).below hb (Nat.le_refl _))).more (Nat.le_refl _) hb.size)
theorem Rg.of_own {base : Nat} {e : TypeId} {size : Nat} (h : w.ownsRow base e size v n cs) : Rg w base w.heap.size v n cs := by
  rcases h.2 with ⟨rfl, rfl⟩ | ⟨g, cap, cur, rfl, hg, hh, hn, hc, _⟩
  · refine ⟨_, _, rfl, Nat.le_refl _, by unfold maxLen; omega, fun j u hu => ?_⟩
    have := h.1
    simp at this
    subst this
    simp at hu
  · refine ⟨_, _, rfl, hn, hc, fun j u hu => ?_⟩
    have := h.cells (g := g) rfl j u hu
    have hp : ((⟨g, 0, none⟩ : Addr).add j) = ⟨g, 0 + j, none⟩ := by unfold Addr.add; split <;> simp_all
    rw [hp] at this
    exact ⟨g, 0, rfl, ⟨hg, (Array.getElem?_eq_some_iff.1 hh).1⟩, this⟩
end

/-- a slice of structs of so many cells, of which each reads so -/
def RL {α : Type} (R : World → Nat → Nat → List Value → α → Prop) (size : Nat) (w : World) (lo hi : Nat) (v : Value) (l : List α) : Prop :=
  ∃ A c, v = .slice A l.length c ∧ l.length ≤ c ∧ c ≤ maxLen ∧ ∀ i (h : i < l.length), ∃ b o cs, A = some ⟨b, o, none⟩ ∧ (lo ≤ b ∧ b < hi) ∧ cs.length = size ∧
    (∀ k u, cs[k]? = some u → w.cell? ⟨b, o + i * size + k, none⟩ = some u) ∧ R w lo hi cs l[i]
section
variable {α : Type} {R : World → Nat → Nat → List Value → α → Prop} {size : Nat} {w w' : World} {lo hi lo' hi' : Nat} {v : Value} {l : List α}
theorem RL.keep (hR : Stable R) (h : RL R size w lo hi v l) (hk : KeptB lo hi w w') : RL R size w' lo hi v l := by
  obtain ⟨A, c, e, h1, h2, hc⟩ := h
  refine ⟨A, c, e, h1, h2, fun i hi' => ?_⟩
  obtain ⟨b, o, cs, hA, hb, hl, hcell, hr⟩ := hc i hi'
  exact ⟨b, o, cs, hA, hb, hl, fun k u hu => (hk.cell _ hb.1 hb.2).trans (hcell k u hu), hR.keep hr hk⟩
theorem RL.more (hR : Stable R) (h : RL R size w lo hi v l) (h1 : lo' ≤ lo) (h2 : hi ≤ hi') : RL R size w lo' hi' v l := by
  obtain ⟨A, c, e, g1, g2, hc⟩ := h
  refine ⟨A, c, e, g1, g2, fun i hi'' => ?_⟩
  obtain ⟨b, o, cs, hA, hb, hl, hcell, hr⟩ := hc i hi''
  exact ⟨b, o, cs, hA, ⟨by omega, by omega⟩, hl, hcell, hR.more hr h1 h2⟩
theorem RL.here (hR : Stable R) (h : RL R size w 0 w.heap.size v l) (hb : Below w.heap.size w w') : RL R size w' 0 w'.heap.size v l := ((h.keep hR ((KeptB.refl _ _ _).below hb (Nat.le_refl _))).more hR (Nat.le_refl _) hb.size)
theorem Stable.here (hR : Stable R) {cs : List Value} {x : α} (h : R w 0 w.heap.size cs x) (hb : Below w.heap.size w w') : R w' 0 w'.heap.size cs x := hR.more (hR.keep h ((KeptB.refl _ _ _).below hb (Nat.le_refl _))) (Nat.le_refl _) hb.size
theorem RL.form (h : RL R size w lo hi v l) : ∃ A c, v = .slice A l.length c := by
  obtain ⟨A, c, e, _⟩ := h
  exact ⟨A, c, e⟩
theorem RL.at_ {A : Option Addr} {c i : Nat} (h : RL R size w lo hi (.slice A l.length c) l) (hi' : i < l.length) :
    ∃ b o cs, A = some ⟨b, o, none⟩ ∧ (lo ≤ b ∧ b < hi) ∧ cs.length = size ∧ (∀ k u, cs[k]? = some u → w.cell? ⟨b, o + i * size + k, none⟩ = some u) ∧ R w lo hi cs l[i] := by
  obtain ⟨A', c', e, _, _, hc⟩ := h
  injection e with e1 e2 e3
  subst e1
  exact hc i hi'
theorem RL.nil : RL R size w lo hi (.slice none 0 0) [] := ⟨none, 0, rfl, Nat.le_refl _, by unfold maxLen; omega, fun i h => by simp at h⟩
theorem RL.long (h : RL R size w lo hi v l) : l.length ≤ 9223372036854775807 := by
  obtain ⟨A, c, e, g1, g2, hc⟩ := h
  unfold maxLen at g2; omega
end

/-- a number or a bool -/
def sc : Value → Prop
  | .int .i64 _ => True
  | .bool _ => True
  | _ => False
/-- a slice of the call's own, of numbers and bools alone -/
def Og (w : World) (lo hi : Nat) (e : TypeId) (size : Nat) (v : Value) (n : Nat) : Prop := ∃ xs, w.ownsRow lo e size v n xs ∧ (∀ k, v.ownBlock = some k → k < hi) ∧ ∀ x ∈ xs, sc x
/-- a slice of the call's own, of structs -/
def OL {α : Type} (O : World → Nat → Nat → List Value → α → Prop) (e : TypeId) (size : Nat) (w : World) (lo hi : Nat) (v : Value) (l : List α) : Prop :=
  ∃ xs, w.ownsRow lo e size v l.length xs ∧ (∀ k, v.ownBlock = some k → k < hi) ∧ ∀ i (h : i < l.length), ∃ cs : List Value, cs.length = size ∧ (∀ j, j < size → xs[i * size + j]? = cs[j]?) ∧ O w lo hi cs l[i]
theorem own_keptB {w w' : World} {lo hi n : Nat} {e : TypeId} {size : Nat} {v : Value} {xs : List Value} (h : w.ownsRow lo e size v n xs) (hh : ∀ k, v.ownBlock = some k → k < hi) (hk : KeptB lo hi w w') : w'.ownsRow lo e size v n xs := by
  refine ⟨h.1, ?_⟩
  rcases h.2 with hn | ⟨g, cap, cur, hv, hg, hb, r⟩
  · exact .inl hn
  · exact .inr ⟨g, cap, cur, hv, hg, (hk g hg (hh g (by rw [hv]; rfl))).trans hb, r⟩
section
variable {w w' : World} {lo hi lo' hi' n : Nat} {e : TypeId} {size : Nat} {v : Value}
theorem Og.keep (h : Og w lo hi e size v n) (hk : KeptB lo hi w w') : Og w' lo hi e size v n := by
  obtain ⟨xs, ho, hh, hs⟩ := h
  exact ⟨xs, own_keptB ho hh hk, hh, hs⟩
theorem Og.more (h : Og w lo hi e size v n) (h1 : lo' ≤ lo) (h2 : hi ≤ hi') : Og w lo' hi' e size v n := by
  obtain ⟨xs, ho, hh, hs⟩ := h
  exact ⟨xs, own_base ho h1, fun k hk => Nat.lt_of_lt_of_le (hh k hk) h2, hs⟩
theorem Og.of_own {xs : List Value} (h : w.ownsRow lo e size v n xs) (hs : ∀ x ∈ xs, sc x) : Og w lo w.heap.size e size v n := ⟨xs, h, fun k hk => (h.lt k hk).2, hs⟩
theorem sc_icells {l : List Int} : ∀ x ∈ icells .i64 l, sc x := by intro x hx; obtain ⟨z, _, rfl⟩ := List.mem_map.1 hx; trivial
section
variable {α : Type} {O : World → Nat → Nat → List Value → α → Prop} {l : List α}
theorem OL.keep (hO : Stable O) (h : OL O e size w lo hi v l) (hk : KeptB lo hi w w') : OL O e size w' lo hi v l := by
  obtain ⟨xs, ho, hh, hs⟩ := h
  refine ⟨xs, own_keptB ho hh hk, hh, fun i hi' => ?_⟩
  obtain ⟨cs, h1, h2, h3⟩ := hs i hi'
  exact ⟨cs, h1, h2, hO.keep h3 hk⟩
theorem OL.more (hO : Stable O) (h : OL O e size w lo hi v l) (h1 : lo' ≤ lo) (h2 : hi ≤ hi') : OL O e size w lo' hi' v l := by
  obtain ⟨xs, ho, hh, hs⟩ := h
  refine ⟨xs, own_base ho h1, fun k hk => Nat.lt_of_lt_of_le (hh k hk) h2, fun i hi'' => ?_⟩
  obtain ⟨cs, g1, g2, g3⟩ := hs i hi''
  exact ⟨cs, g1, g2, hO.more g3 h1 h2⟩
end
end
theorem below_box3 {w w1 : World} {a b c : Obj} (hb : Below (((w.alloc a).alloc b).alloc c).heap.size (((w.alloc a).alloc b).alloc c) w1) : Below w.heap.size w w1 := by
  refine ((((Below.refl _ _).alloc (Nat.le_refl _) _).alloc ?_ _).alloc ?_ _).trans (hb.mono ?_)
  · rw [World.size_alloc]; omega
  · rw [World.size_alloc, World.size_alloc]; omega
  · rw [World.size_alloc, World.size_alloc, World.size_alloc]; omega
/-- the two blocks of a function that takes two structs -/
theorem two_below {w w1 : World} {a b : Array Value} {ta tb : TypeId} (hb : Below ((w.alloc (.cells a ta)).alloc (.cells b tb)).heap.size ((w.alloc (.cells a ta)).alloc (.cells b tb)) w1) :
    Bk w1 w.heap.size ta a ∧ Bk w1 (w.heap.size + 1) tb b ∧ w.heap.size + 1 < w1.heap.size ∧ Below w.heap.size w w1 := by
  have e1 : (w.alloc (.cells a ta)).heap.size = w.heap.size + 1 := World.size_alloc _ _
  have e2 : ((w.alloc (.cells a ta)).alloc (.cells b tb)).heap.size = w.heap.size + 1 + 1 := by rw [World.size_alloc, e1]
  have k1 := (Bk.new w ta a).alloc (.cells b tb)
  have k2 := Bk.new (w.alloc (.cells a ta)) tb b
  rw [e1] at k2
  have hs := hb.size
  rw [e2] at hs
  refine ⟨k1.below hb, k2.below hb, by omega, ((((Below.refl _ _).alloc (Nat.le_refl _) _).alloc ?_ _).trans (hb.mono ?_))⟩
  · rw [World.size_alloc]; omega
  · rw [World.size_alloc, World.size_alloc]; omega
theorem one_below {w w1 : World} {a : Array Value} {ta : TypeId} (hb : Below (w.alloc (.cells a ta)).heap.size (w.alloc (.cells a ta)) w1) :
    Bk w1 w.heap.size ta a ∧ w.heap.size < w1.heap.size ∧ Below w.heap.size w w1 := by
  have e1 : (w.alloc (.cells a ta)).heap.size = w.heap.size + 1 := World.size_alloc _ _
  have hs := hb.size
  rw [e1] at hs
  refine ⟨(Bk.new w ta a).below hb, by omega, ((Below.refl _ _).alloc (Nat.le_refl _) _).trans (hb.mono ?_)⟩
  rw [World.size_alloc]; omega
/-- the three blocks of a function that takes and returns a struct -/
theorem three_below {w w1 : World} {a b c : Array Value} {ta tb tc : TypeId} (hb : Below (((w.alloc (.cells a ta)).alloc (.cells b tb)).alloc (.cells c tc)).heap.size (((w.alloc (.cells a ta)).alloc (.cells b tb)).alloc (.cells c tc)) w1) :
    Bk w1 w.heap.size ta a ∧ Bk w1 (w.heap.size + 1) tb b ∧ Bk w1 (w.heap.size + 1 + 1) tc c ∧ w.heap.size + 1 + 1 < w1.heap.size ∧ Below w.heap.size w w1 := by
  have e1 : (w.alloc (.cells a ta)).heap.size = w.heap.size + 1 := World.size_alloc _ _
  have e2 : ((w.alloc (.cells a ta)).alloc (.cells b tb)).heap.size = w.heap.size + 1 + 1 := by rw [World.size_alloc, e1]
  have e3 : (((w.alloc (.cells a ta)).alloc (.cells b tb)).alloc (.cells c tc)).heap.size = w.heap.size + 1 + 1 + 1 := by rw [World.size_alloc, e2]
  have k1 := ((Bk.new w ta a).alloc (.cells b tb)).alloc (.cells c tc)
  have k2 := (Bk.new (w.alloc (.cells a ta)) tb b).alloc (.cells c tc)
  have k3 := Bk.new ((w.alloc (.cells a ta)).alloc (.cells b tb)) tc c
  rw [e1] at k2
  rw [e2] at k3
  have hs := hb.size
  rw [e3] at hs
  exact ⟨k1.below hb, k2.below hb, k3.below hb, by omega, below_box3 hb⟩
end Go.Proofs.YtgkjakoagdkpcaaGreatDoor
set_option linter.unusedSimpArgs false
set_option linter.unusedVariables false
namespace Go.Proofs.YtgkjakoagdkpcaaGreatDoor
open Go.RowKit

structure P2 where
  o : Int
  n : Int
deriving DecidableEq
def P2.cell (r : P2) : List Value := [.int .i64 r.o, .int .i64 r.n]
def P2.agg (r : P2) : Value := .agg #[.int .i64 r.o, .int .i64 r.n]
def pcells (l : List P2) : List Value := l.flatMap P2.cell
theorem pcells_length (l : List P2) : (pcells l).length = l.length * 2 := by
  induction l with
  | nil => rfl
  | cons r l ih => simp only [pcells, List.flatMap_cons, List.length_append, List.length_cons] at *; rw [ih]; simp [P2.cell]; omega
theorem pcells_append (a b : List P2) : pcells (a ++ b) = pcells a ++ pcells b := by simp [pcells]
theorem pcells_cons (r : P2) (l : List P2) : pcells (r :: l) = .int .i64 r.o :: .int .i64 r.n :: pcells l := rfl
theorem pcells_snoc (l : List P2) (r : P2) : pcells (l ++ [r]) = pcells l ++ [.int .i64 r.o, .int .i64 r.n] := by rw [pcells_append]; rfl
theorem pcells_set : ∀ (l : List P2) (k : Nat) (r : P2), k < l.length → ((pcells l).set (k * 2) (.int .i64 r.o)).set (k * 2 + 1) (.int .i64 r.n) = pcells (l.set k r) := by
  intro l
  induction l with
  | nil => intro k r h; simp at h
  | cons x l ih =>
    intro k r h
    cases k with
    | zero => simp [pcells_cons]
    | succ k =>
      have := ih k r (by simpa using h)
      rw [show (k + 1) * 2 = k * 2 + 1 + 1 by omega]
      simp only [pcells_cons, List.set_cons_succ]
      rw [← this]
theorem pcells_get (l : List P2) (k : Nat) (h : k < l.length) : (pcells l)[k * 2]? = some (.int .i64 l[k].o) ∧ (pcells l)[k * 2 + 1]? = some (.int .i64 l[k].n) := by
  have e : l = l.take k ++ (l[k] :: l.drop (k + 1)) := by rw [← List.drop_eq_getElem_cons h, List.take_append_drop]
  have hl : (pcells (l.take k)).length = k * 2 := by rw [pcells_length, List.length_take, Nat.min_eq_left (by omega)]
  have e2 : pcells l = pcells (l.take k) ++ (l[k].cell ++ pcells (l.drop (k + 1))) := by
    conv => lhs; rw [e]
    rw [pcells_append]; rfl
  rw [e2]
  refine ⟨?_, ?_⟩ <;> rw [List.getElem?_append_right (by omega), hl] <;> simp [P2.cell]
/-- the two cells of an element of a slice that is read -/
theorem Rd.two {w : World} {B c k : Nat} {A : Option Addr} {l : List P2} (h : Rd w B (.slice A l.length c) l.length (pcells l)) (hk : k < l.length) :
    ∃ b o, A = some ⟨b, o, none⟩ ∧ b < B ∧ w.cell? ⟨b, o + k * 2, none⟩ = some (.int .i64 l[k].o) ∧ w.cell? ⟨b, o + k * 2 + 1, none⟩ = some (.int .i64 l[k].n) := by
  obtain ⟨g0, g1⟩ := pcells_get l k hk
  obtain ⟨b, o, rfl, hbB, s0⟩ := h.at3 g0
  obtain ⟨_, _, e, _, s1⟩ := h.at3 g1
  cases e
  exact ⟨b, o, rfl, hbB, s0, by rw [← Nat.add_assoc] at s1; exact s1⟩
theorem Rd.two' {w w' : World} {B B' c k : Nat} {A : Option Addr} {l : List P2} (h : Rd w B (.slice A l.length c) l.length (pcells l)) (hb : Below B' w w') (hB : B ≤ B') (hk : k < l.length) :
    ∃ b o, A = some ⟨b, o, none⟩ ∧ b < B ∧ w'.cell? ⟨b, o + k * 2, none⟩ = some (.int .i64 l[k].o) ∧ w'.cell? ⟨b, o + k * 2 + 1, none⟩ = some (.int .i64 l[k].n) := (h.below' hb hB).two hk
def iotaP (k : Int) (n : Nat) : List P2 := (List.range n).map fun (j : Nat) => ⟨k + 2 * (j : Int), k + 2 * (j : Int) + 1⟩
theorem iotaP_length (k : Int) (n : Nat) : (iotaP k n).length = n := by simp [iotaP]
theorem iotaP_get (k : Int) (n j : Nat) (h : j < n) : (iotaP k n)[j]'(by rw [iotaP_length]; exact h) = ⟨k + 2 * (j : Int), k + 2 * (j : Int) + 1⟩ := by simp [iotaP]
theorem iotaP_succ (k : Int) (n : Nat) : iotaP k (n + 1) = iotaP k n ++ [⟨k + 2 * (n : Int), k + 2 * (n : Int) + 1⟩] := by simp [iotaP, List.range_succ]
theorem markP_set (l : List P2) (k : Int) (j : Nat) (h : j < l.length) : (iotaP k j ++ l.drop j).set j ⟨k + 2 * (j : Int), k + 2 * (j : Int) + 1⟩ = iotaP k (j + 1) ++ l.drop (j + 1) := by
  rw [List.set_append, if_neg (by rw [iotaP_length]; omega), iotaP_length, Nat.sub_self, List.drop_eq_getElem_cons h, iotaP_succ, List.set_cons_zero, List.append_assoc]
  rfl
theorem grown_setP {a w : World} {g : Nat} (h : a.grownBy w (some g)) {p : Addr} (hp : p.block = g) (u : Value) : a.grownBy (w.setCell p u) (some g) :=
  ⟨h.os, h.tape, h.output, by simpa [World.setCell] using h.size, fun i hi hne => (Below.heap_setCell w p u i (by rintro rfl; exact hne (by rw [hp]))).trans (h.block i hi hne)⟩
end Go.Proofs.YtgkjakoagdkpcaaGreatDoor
set_option linter.unusedSimpArgs false
set_option linter.unusedVariables false
namespace Go.Proofs.YtgkjakoagdkpcaaGreatDoor

/-- x put among rising numbers -/
def putL : List Int → Int → List Int
  | [], x => [x]
  | a :: l, x => if a < x then a :: putL l x else if a = x then a :: l else x :: a :: l
theorem putL_same : ∀ (l : List Int) (k : Nat) (x : Int), (∀ j (h : j < l.length), j < k → l[j] < x) → ∀ hk : k < l.length, l[k] = x → putL l x = l := by
  intro l
  induction l with
  | nil => intro k x _ hk; simp at hk
  | cons a l ih =>
    intro k x hlt hk he
    cases k with
    | zero => simp only [List.getElem_cons_zero] at he; subst he; simp only [putL]; rw [if_neg (by omega)]; simp
    | succ k =>
      have h0 := hlt 0 (by simp) (by omega)
      simp only [List.getElem_cons_zero] at h0
      simp only [putL]
      rw [if_pos h0, ih k x (fun j hj hjk => by have := hlt (j + 1) (by simpa using hj) (by omega); simpa using this) (by simpa using hk) (by simpa using he)]
theorem putL_new : ∀ (l : List Int) (k : Nat) (x : Int), k ≤ l.length → (∀ j (h : j < l.length), j < k → l[j] < x) → (∀ hk : k < l.length, ¬ l[k] < x ∧ l[k] ≠ x) → putL l x = l.take k ++ [x] ++ l.drop k := by
  intro l
  induction l with
  | nil => intro k x _ _ _; simp [putL]
  | cons a l ih =>
    intro k x hk hlt hn
    cases k with
    | zero =>
      obtain ⟨h1, h2⟩ := hn (by simp)
      simp only [List.getElem_cons_zero] at h1 h2
      simp only [putL]
      rw [if_neg h1, if_neg h2]; rfl
    | succ k =>
      have h0 := hlt 0 (by simp) (by omega)
      simp only [List.getElem_cons_zero] at h0
      simp only [putL]
      rw [if_pos h0, ih k x (by simpa using hk) (fun j hj hjk => by have := hlt (j + 1) (by simpa using hj) (by omega); simpa using this) (fun hk' => by have := hn (by simpa using hk'); simpa using this)]
      rfl
end Go.Proofs.YtgkjakoagdkpcaaGreatDoor
set_option linter.unusedSimpArgs false
set_option linter.unusedVariables false
namespace Go.Proofs.YtgkjakoagdkpcaaGreatDoor

/-- where an instruction goes on -/
def nextI (t : P2) (a : Int) : List Int := if t.o = 10 then [t.n] else if t.o = 11 then putL [a + 1] t.n else if t.o = 13 ∨ t.o = 14 ∨ t.o = 16 ∨ t.o = 18 then [] else [a + 1]
theorem nextI_length (t : P2) (a : Int) : (nextI t a).length ≤ 2 := by
  unfold nextI
  split
  · simp
  split
  · simp only [putL]; split
    · simp
    · split <;> simp
  split <;> simp
end Go.Proofs.YtgkjakoagdkpcaaGreatDoor
namespace Go.Proofs.YtgkjakoagdkpcaaGreatDoor
def inB (a b c : Int) : Bool := decide (b ≤ a ∧ a ≤ c)
theorem inB_yes {a b c : Int} (h1 : b ≤ a) (h2 : a ≤ c) : inB a b c = true := decide_eq_true ⟨h1, h2⟩
theorem inB_no {a b c : Int} (h : a < b ∨ c < a) : inB a b c = false := decide_eq_false (by omega)
theorem inB_iff {a b c : Int} : inB a b c = true ↔ b ≤ a ∧ a ≤ c := by unfold inB; exact decide_eq_true_iff
end Go.Proofs.YtgkjakoagdkpcaaGreatDoor
set_option linter.unusedSimpArgs false
set_option linter.unusedVariables false
namespace Go.Proofs.YtgkjakoagdkpcaaGreatDoor

def smallB (n : Int) : Bool := inB n (-2147483648) 2147483647
/-- a token is one, with so many variables and functions -/
def tokOk (vars funcs : Int) (t : P2) : Bool :=
  if t.o = 1 then smallB t.n else if t.o = 2 then inB t.n 0 (vars - 1) else if t.o = 11 then inB t.n 0 (funcs - 1) else inB t.o 3 10 && decide (t.n = 0)
/-- how many numbers a token takes -/
def need (params : List Int) (t : P2) : Int := if t.o = 11 then params.getD t.n.toNat 0 else if 3 ≤ t.o ∧ t.o ≤ 8 then 2 else 0
def parOk (params : List Int) : Bool := decide (params.length ≤ 5) && params.all fun n => decide (0 ≤ n ∧ n ≤ 2)
theorem parOk_iff {params : List Int} : parOk params = true ↔ params.length ≤ 5 ∧ ∀ n ∈ params, 0 ≤ n ∧ n ≤ 2 := by
  simp [parOk, List.all_eq_true]
theorem parOk_nil : parOk [] = true := rfl
theorem need_bd {params : List Int} (h : parOk params = true) (t : P2) : 0 ≤ need params t ∧ need params t ≤ 2 := by
  obtain ⟨_, h2⟩ := parOk_iff.1 h
  unfold need
  split
  · by_cases hk : t.n.toNat < params.length
    · have := h2 _ (List.getElem_mem hk); simpa [List.getD, List.getElem?_eq_getElem hk] using this
    · simp [List.getD, List.getElem?_eq_none (Nat.le_of_not_lt hk)]
  · split <;> omega
/-- the pile's count and its most, behind the tokens -/
def runE (vars : Int) (params : List Int) : List P2 → Int → Int → Option (Int × Int)
  | [], c, h => some (c, h)
  | t :: l, c, h => if tokOk vars params.length t = true ∧ need params t ≤ c then runE vars params l (c + 1 - need params t) (max h (c + 1 - need params t)) else none
theorem runE_yes {vars : Int} {params : List Int} {l : List P2} {k : Nat} {c h : Int} (hk : k < l.length) (h1 : tokOk vars params.length l[k] = true) (h2 : need params l[k] ≤ c) :
    runE vars params (l.drop k) c h = runE vars params (l.drop (k + 1)) (c + 1 - need params l[k]) (max h (c + 1 - need params l[k])) := by
  rw [List.drop_eq_getElem_cons hk]; simp only [runE]; rw [if_pos ⟨h1, h2⟩]
theorem runE_no {vars : Int} {params : List Int} {l : List P2} {k : Nat} {c h : Int} (hk : k < l.length) (h1 : ¬ (tokOk vars params.length l[k] = true ∧ need params l[k] ≤ c)) :
    runE vars params (l.drop k) c h = none := by
  rw [List.drop_eq_getElem_cons hk]; simp only [runE]; rw [if_neg h1]
def highOf (vars : Int) (params : List Int) (e : List P2) : Int :=
  if 1 ≤ e.length ∧ e.length ≤ 12 then (match runE vars params e 0 0 with | some (c, h) => if c = 1 then h else 0 | none => 0) else 0
theorem highOf_none {vars : Int} {params : List Int} {e : List P2} (h : runE vars params e 0 0 = none) : highOf vars params e = 0 := by
  unfold highOf; rw [h]; simp
theorem highOf_some {vars : Int} {params : List Int} {e : List P2} {c m : Int} (h : runE vars params e 0 0 = some (c, m)) (h1 : e.length ≤ 12) (hc : c = 1) : highOf vars params e = m := by
  unfold highOf
  subst hc
  cases e with
  | nil => simp [runE] at h
  | cons t l => rw [if_pos ⟨by simp, h1⟩, h]; simp
theorem highOf_bad {vars : Int} {params : List Int} {e : List P2} {c m : Int} (h : runE vars params e 0 0 = some (c, m)) (h1 : c ≠ 1 ∨ 12 < e.length) : highOf vars params e = 0 := by
  unfold highOf
  by_cases h2 : 1 ≤ e.length ∧ e.length ≤ 12
  · rw [if_pos h2, h]; simp; intro h3; omega
  · rw [if_neg h2]
theorem highOf_size {vars : Int} {params : List Int} {e : List P2} (h : ¬ (1 ≤ e.length ∧ e.length ≤ 12)) : highOf vars params e = 0 := by
  unfold highOf; rw [if_neg h]
theorem runE_bd {vars : Int} {params : List Int} (hp : parOk params = true) : ∀ (l : List P2) (c h : Int), 0 ≤ c → c ≤ h → ∀ c' h', runE vars params l c h = some (c', h') → 0 ≤ c' ∧ c' ≤ h' ∧ h ≤ h' ∧ h' ≤ h + l.length ∧ (l ≠ [] → 1 ≤ h') := by
  intro l
  induction l with
  | nil => intro c h h0 h1 c' h' he; simp only [runE, Option.some.injEq, Prod.mk.injEq] at he; obtain ⟨rfl, rfl⟩ := he; simp; omega
  | cons t l ih =>
    intro c h h0 h1 c' h' he
    simp only [runE] at he
    have hn := need_bd hp t
    by_cases hg : tokOk vars params.length t = true ∧ need params t ≤ c
    · rw [if_pos hg] at he
      have hm1 : c + 1 - need params t ≤ max h (c + 1 - need params t) := by omega
      have hm2 : max h (c + 1 - need params t) ≤ h + 1 := by omega
      obtain ⟨q1, q2, q3, q4, _⟩ := ih _ _ (by omega) hm1 _ _ he
      refine ⟨q1, q2, by omega, by simp; omega, fun _ => by omega⟩
    · rw [if_neg hg] at he; cases he
theorem highOf_bd {vars : Int} {params : List Int} (hp : parOk params = true) (e : List P2) : 0 ≤ highOf vars params e ∧ highOf vars params e ≤ 12 := by
  by_cases h2 : 1 ≤ e.length ∧ e.length ≤ 12
  · cases h : runE vars params e 0 0 with
    | none => rw [highOf_none h]; omega
    | some x =>
      obtain ⟨c, m⟩ := x
      obtain ⟨q1, q2, q3, q4, q5⟩ := runE_bd hp e 0 0 (by omega) (by omega) c m h
      by_cases hc : c = 1
      · rw [highOf_some h h2.2 hc]; omega
      · rw [highOf_bad h (.inl hc)]; omega
  · rw [highOf_size h2]; omega
theorem highOf_pos {vars : Int} {params : List Int} (hp : parOk params = true) {e : List P2} {c m : Int} (h : runE vars params e 0 0 = some (c, m)) (h1 : e.length ≤ 12) (hc : c = 1) : 1 ≤ highOf vars params e := by
  rw [highOf_some h h1 hc]
  obtain ⟨q1, q2, q3, q4, q5⟩ := runE_bd hp e 0 0 (by omega) (by omega) c m h
  refine q5 ?_
  rintro rfl
  simp [runE] at h
  omega
def goodExpr (e : List P2) (vars : Int) (params : List Int) : Bool := decide (0 ≤ vars ∧ vars ≤ 6) && (parOk params && decide (0 < highOf vars params e))
/-- what the reference's height is -/
def specHigh (vars : Int) (params : List Int) (e : List P2) : Int := if highOf vars params e = 0 then -1 else highOf vars params e
theorem specHigh_none {vars : Int} {params : List Int} {e : List P2} (h : runE vars params e 0 0 = none) : specHigh vars params e = -1 := by
  unfold specHigh; rw [highOf_none h]; rfl
theorem specHigh_some {vars : Int} {params : List Int} (hp : parOk params = true) {e : List P2} {c m : Int} (h : runE vars params e 0 0 = some (c, m)) (h1 : e.length ≤ 12) (hc : c = 1) : specHigh vars params e = m := by
  have := highOf_pos hp h h1 hc
  unfold specHigh; rw [if_neg (by omega)]; exact highOf_some h h1 hc
theorem specHigh_bad {vars : Int} {params : List Int} {e : List P2} {c m : Int} (h : runE vars params e 0 0 = some (c, m)) (h1 : c ≠ 1 ∨ 12 < e.length) : specHigh vars params e = -1 := by
  unfold specHigh; rw [highOf_bad h h1]; rfl
end Go.Proofs.YtgkjakoagdkpcaaGreatDoor
set_option linter.unusedSimpArgs false
set_option linter.unusedVariables false
set_option maxRecDepth 100000
namespace Go.Proofs.YtgkjakoagdkpcaaGreatDoor
open Go.RowKit

structure R3 where
  f : Int
  t : Int
  p : Int
def R3.cell (r : R3) : List Value := [.int .i64 r.f, .int .i64 r.t, .int .i64 r.p]
def R3.agg (r : R3) : Value := .agg #[.int .i64 r.f, .int .i64 r.t, .int .i64 r.p]
def rcells (l : List R3) : List Value := l.flatMap R3.cell
theorem rcells_length (l : List R3) : (rcells l).length = l.length * 3 := by
  induction l with
  | nil => rfl
  | cons r l ih => simp only [rcells, List.flatMap_cons, List.length_append, List.length_cons] at *; rw [ih]; simp [R3.cell]; omega
theorem rcells_append (a b : List R3) : rcells (a ++ b) = rcells a ++ rcells b := by simp [rcells]
theorem rcells_cons (r : R3) (l : List R3) : rcells (r :: l) = .int .i64 r.f :: .int .i64 r.t :: .int .i64 r.p :: rcells l := rfl
theorem rcells_set : ∀ (l : List R3) (k : Nat) (r : R3), k < l.length → (((rcells l).set (k * 3) (.int .i64 r.f)).set (k * 3 + 1) (.int .i64 r.t)).set (k * 3 + 2) (.int .i64 r.p) = rcells (l.set k r) := by
  intro l
  induction l with
  | nil => intro k r h; simp at h
  | cons x l ih =>
    intro k r h
    cases k with
    | zero => simp [rcells_cons]
    | succ k =>
      have := ih k r (by simpa using h)
      rw [show (k + 1) * 3 = k * 3 + 1 + 1 + 1 by omega]
      simp only [rcells_cons, List.set_cons_succ]
      rw [← this]
theorem rcells_get (l : List R3) (k : Nat) (h : k < l.length) : (rcells l)[k * 3]? = some (.int .i64 l[k].f) ∧ (rcells l)[k * 3 + 1]? = some (.int .i64 l[k].t) ∧ (rcells l)[k * 3 + 2]? = some (.int .i64 l[k].p) := by
  have e : l = l.take k ++ (l[k] :: l.drop (k + 1)) := by rw [← List.drop_eq_getElem_cons h, List.take_append_drop]
  have hl : (rcells (l.take k)).length = k * 3 := by rw [rcells_length, List.length_take, Nat.min_eq_left (by omega)]
  have e2 : rcells l = rcells (l.take k) ++ (l[k].cell ++ rcells (l.drop (k + 1))) := by
    conv => lhs; rw [e]
    rw [rcells_append]; rfl
  rw [e2]
  refine ⟨?_, ?_, ?_⟩ <;> rw [List.getElem?_append_right (by omega), hl] <;> simp [R3.cell]

theorem okRow : SliceOk Tryz.prog 37 82 (.agg #[.int .i64 0, .int .i64 0, .int .i64 0]) 3 24 := .mk Tryz.underlying37 (by kernel_rfl) rfl (by decide)

end Go.Proofs.YtgkjakoagdkpcaaGreatDoor
set_option linter.unusedSimpArgs false
set_option linter.unusedVariables false
namespace Go.Proofs.YtgkjakoagdkpcaaGreatDoor
open Go.RowKit

theorem sc_pcells {l : List P2} : ∀ x ∈ pcells l, sc x := by
  intro x hx
  obtain ⟨z, _, hz⟩ := List.mem_flatMap.1 hx
  simp [P2.cell] at hz
  rcases hz with rfl | rfl <;> trivial
theorem sc_rcells {l : List R3} : ∀ x ∈ rcells l, sc x := by
  intro x hx
  obtain ⟨z, _, hz⟩ := List.mem_flatMap.1 hx
  simp [R3.cell] at hz
  rcases hz with rfl | rfl | rfl <;> trivial
/-- cells laid one after the other -/
def setAll (xs : List Value) (i : Nat) : List Value → Nat → List Value
  | [], _ => xs
  | c :: cs, j => setAll (xs.set (i + j) c) i cs (j + 1)
theorem flatten_get {css : List (List Value)} {size : Nat} (hs : ∀ x ∈ css, x.length = size) : ∀ (i j : Nat), i < css.length → j < size → css.flatten[i * size + j]? = (css[i]?.getD [])[j]? := by
  induction css with
  | nil => intro i j h; simp at h
  | cons c css ih =>
    intro i j hi hj
    have hc : c.length = size := hs c (by simp)
    cases i with
    | zero => simp [List.getElem?_append, hc, hj]
    | succ i =>
      rw [List.flatten_cons, List.getElem?_append_right (by rw [hc, Nat.add_mul]; omega), hc, show (i + 1) * size + j - size = i * size + j by rw [Nat.add_mul]; omega]
      rw [ih (fun x hx => hs x (by simp [hx])) i j (by simpa using hi) hj]
      simp
theorem flatten_length {css : List (List Value)} {size : Nat} (hs : ∀ x ∈ css, x.length = size) : css.flatten.length = css.length * size := by
  induction css with
  | nil => simp
  | cons c css ih => rw [List.flatten_cons, List.length_append, ih (fun x hx => hs x (by simp [hx])), hs c (by simp), List.length_cons, Nat.add_mul]; omega
/-- a finished row of structs -/
theorem own_finish {α : Type} {R O : World → Nat → Nat → List Value → α → Prop} {w : World} {base : Nat} {e : TypeId} {size : Nat} {l : List α} {css : List (List Value)} (h1 : css.length = l.length) (h2 : ∀ x ∈ css, x.length = size)
    (hown : w.ownsRow base e size (.slice (some ⟨base, 0, none⟩) l.length l.length) l.length css.flatten) (hel : ∀ j (h : j < l.length), ∃ cs, css[j]? = some cs ∧ R w (base + 1) w.heap.size cs l[j] ∧ O w (base + 1) w.heap.size cs l[j]) (hR : Stable R) (hO : Stable O) :
    RL R size w base w.heap.size (.slice (some ⟨base, 0, none⟩) l.length l.length) l ∧ OL O e size w base w.heap.size (.slice (some ⟨base, 0, none⟩) l.length l.length) l := by
  have hlt := hown.lt base rfl
  have hmax : l.length ≤ maxLen := by obtain ⟨A, c, he, g1, g2, _⟩ := Rd.of_own hown; cases he; exact g2
  refine ⟨⟨_, _, rfl, Nat.le_refl _, hmax, fun i hi => ?_⟩, ⟨_, hown, fun k hk => (hown.lt k hk).2, fun i hi => ?_⟩⟩
  · obtain ⟨cs, g1, g2, _⟩ := hel i hi
    have hcl : cs.length = size := h2 cs (List.mem_of_getElem? g1)
    refine ⟨base, 0, cs, rfl, ⟨Nat.le_refl _, hlt.2⟩, hcl, fun k u hu => ?_, hR.more g2 (by omega) (Nat.le_refl _)⟩
    have hk : k < size := by rw [← hcl]; exact (List.getElem?_eq_some_iff.1 hu).1
    have hle : (i + 1) * size ≤ l.length * size := Nat.mul_le_mul_right _ hi
    rw [Nat.add_mul] at hle
    rw [Nat.zero_add, hown.cellAt (i * size + k) (by omega), flatten_get h2 i k (by omega) hk, g1]
    exact hu
  · obtain ⟨cs, g1, _, g3⟩ := hel i hi
    have hcl : cs.length = size := h2 cs (List.mem_of_getElem? g1)
    refine ⟨cs, hcl, fun j hj => ?_, hO.more g3 (by omega) (Nat.le_refl _)⟩
    rw [flatten_get h2 i j (by omega) hj, g1]; rfl
theorem setAll_length (i : Nat) : ∀ (cs xs : List Value) (j : Nat), (setAll xs i cs j).length = xs.length := by
  intro cs
  induction cs with
  | nil => intro xs j; rfl
  | cons c cs ih => intro xs j; simp only [setAll]; rw [ih, List.length_set]
theorem setAll_get (i : Nat) : ∀ (cs xs : List Value) (j n : Nat), i + j + cs.length ≤ xs.length → (setAll xs i cs j)[n]? = if i + j ≤ n ∧ n < i + j + cs.length then cs[n - (i + j)]? else xs[n]? := by
  intro cs
  induction cs with
  | nil => intro xs j n h; simp only [setAll]; rw [if_neg (by simp)]
  | cons c cs ih =>
    intro xs j n h
    simp only [List.length_cons] at h
    simp only [setAll]
    rw [ih _ _ _ (by rw [List.length_set]; omega)]
    by_cases h1 : n = i + j
    · subst h1
      rw [if_neg (by omega), if_pos (by simp), List.getElem?_set_self (by omega)]; simp
    · by_cases h2 : i + (j + 1) ≤ n ∧ n < i + (j + 1) + cs.length
      · rw [if_pos h2, if_pos (by simp only [List.length_cons]; omega), show n - (i + j) = (n - (i + (j + 1))) + 1 by omega]; simp
      · rw [if_neg h2, if_neg (by simp only [List.length_cons]; omega), List.getElem?_set_ne (by omega)]
theorem flatten_set (css : List (List Value)) (k : Nat) (cs : List Value) (size : Nat) (hs : ∀ x ∈ css, x.length = size) (hc : cs.length = size) (hk : k < css.length) : setAll css.flatten (k * size) cs 0 = (css.set k cs).flatten := by
  have hs2 : ∀ x ∈ css.set k cs, x.length = size := fun x hx => by
    rcases List.mem_or_eq_of_mem_set hx with h | h
    · exact hs x h
    · rw [h]; exact hc
  have hl := flatten_length hs
  have hl2 := flatten_length hs2
  have hkm : (k + 1) * size ≤ css.length * size := Nat.mul_le_mul_right _ hk
  rw [Nat.add_mul] at hkm
  apply List.ext_getElem?
  intro n
  rw [setAll_get _ _ _ _ _ (by omega), Nat.add_zero]
  by_cases hn : n < css.length * size
  · have hs0 : 0 < size := by rcases Nat.eq_zero_or_pos size with h | h; subst h; omega; exact h
    have hi : n / size < css.length := Nat.div_lt_of_lt_mul (by rw [Nat.mul_comm]; exact hn)
    have hj : n % size < size := Nat.mod_lt _ hs0
    have he : n / size * size + n % size = n := by rw [Nat.mul_comm]; exact Nat.div_add_mod n size
    have f1 := flatten_get hs (n / size) (n % size) hi hj
    have f2 := flatten_get hs2 (n / size) (n % size) (by rw [List.length_set]; exact hi) hj
    rw [he] at f1 f2
    rw [f1, f2, List.getElem?_set]
    by_cases hkn : k = n / size
    · subst hkn
      rw [if_pos ⟨by omega, by omega⟩, if_pos rfl, if_pos hi, show n - n / size * size = n % size by omega]; rfl
    · rw [if_neg hkn, if_neg]
      rintro ⟨g1, g2⟩
      apply hkn
      have : n / size = k := by
        rw [Nat.div_eq_iff hs0] <;> omega
      exact this.symm
  · rw [if_neg (by omega), List.getElem?_eq_none (by omega), List.getElem?_eq_none (by rw [hl2, List.length_set]; omega)]
end Go.Proofs.YtgkjakoagdkpcaaGreatDoor
