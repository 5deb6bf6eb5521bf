
/- Heights of places that ways lead to: at most one labelling fits. Plain Lean, no program in sight. No condition. -/
import Derived.Test.YtaebmliolpgmdaaKit
set_option linter.unusedSimpArgs false
set_option linter.unusedVariables false
namespace Go.Proofs.Ytaebmliolpgmdaa

/-- what the labelling is about: how many places, those that are met first, where a place leads, what its height becomes -/
structure Ways where
  N : Nat
  R : List Nat
  nx : Nat → List Nat
  out : Nat → Int → Option Int
  pos : ∀ a v u, out a v = some u → 0 ≤ u ∧ u ≤ 40
/-- ways lead to a with height v -/
def Ways.reach (W : Ways) (a : Nat) (v : Int) : Prop := ∀ P : Nat → Int → Prop, (∀ r ∈ W.R, P r 0) → (∀ a v u n, P a v → W.out a v = some u → n ∈ W.nx a → P n u) → P a v
theorem Ways.root (W : Ways) {r : Nat} (h : r ∈ W.R) : W.reach r 0 := fun P h0 _ => h0 r h
theorem Ways.step (W : Ways) {a n : Nat} {v u : Int} (h : W.reach a v) (ho : W.out a v = some u) (hn : n ∈ W.nx a) : W.reach n u := fun P h0 h1 => h1 a v u n (h P h0 h1) ho hn
/-- the heights do not fit -/
def Ways.bad (W : Ways) : Prop := (∃ a v, W.reach a v ∧ W.out a v = none) ∨ ∃ a v v', W.reach a v ∧ W.reach a v' ∧ v ≠ v'
def lab (hs : List Int) (a : Nat) : Int := hs.getD a (-1)
theorem lab_in {hs : List Int} {a : Nat} (h : a < hs.length) : lab hs a = hs[a] := by simp [lab, List.getD, List.getElem?_eq_getElem h]
theorem lab_out {hs : List Int} {a : Nat} (h : ¬ a < hs.length) : lab hs a = -1 := by simp [lab, List.getD, List.getElem?_eq_none (Nat.le_of_not_lt h)]
theorem lab_set {hs : List Int} {n : Nat} {u : Int} (h : n < hs.length) (a : Nat) : lab (hs.set n u) a = if a = n then u else lab hs a := by
  by_cases e : a = n
  · subst e
    rw [if_pos rfl, lab_in (by rw [List.length_set]; exact h)]; simp
  · rw [if_neg e]
    unfold lab
    simp only [List.getD]
    rw [List.getElem?_set_ne (fun x => e x.symm)]
def closed (W : Ways) (hs : List Int) (a : Nat) : Prop := ∃ u, W.out a (lab hs a) = some u ∧ ∀ n ∈ W.nx a, lab hs n = u
/-- so far: of the places that are not to be done yet each is closed -/
def HInv (W : Ways) (hs : List Int) (ex : List Nat) : Prop :=
  hs.length = W.N ∧ (∀ r ∈ W.R, lab hs r = 0) ∧ (∀ a, 0 ≤ lab hs a → W.reach a (lab hs a)) ∧ (∀ a, lab hs a = -1 ∨ (0 ≤ lab hs a ∧ lab hs a ≤ 40)) ∧ ∀ a, 0 ≤ lab hs a → a ∈ ex ∨ closed W hs a
theorem HInv.mono {W : Ways} {hs : List Int} {ex ex' : List Nat} (h : HInv W hs ex) (hm : ∀ a ∈ ex, a ∈ ex') : HInv W hs ex' := by
  obtain ⟨h1, h2, h3, h4, h5⟩ := h
  exact ⟨h1, h2, h3, h4, fun a ha => (h5 a ha).imp (hm a) id⟩
theorem HInv.lt {W : Ways} {hs : List Int} {ex : List Nat} (h : HInv W hs ex) {a : Nat} (ha : 0 ≤ lab hs a) : a < W.N := by
  by_cases hl : a < hs.length
  · rw [← h.1]; exact hl
  · rw [lab_out hl] at ha; omega
theorem HInv.fail1 {W : Ways} {hs : List Int} {ex : List Nat} (h : HInv W hs ex) {a : Nat} (ha : 0 ≤ lab hs a) (ho : W.out a (lab hs a) = none) : W.bad := .inl ⟨a, _, h.2.2.1 a ha, ho⟩
theorem HInv.fail2 {W : Ways} {hs : List Int} {ex : List Nat} (h : HInv W hs ex) {a n : Nat} {u : Int} (ha : 0 ≤ lab hs a) (ho : W.out a (lab hs a) = some u) (hn : n ∈ W.nx a) (hl : 0 ≤ lab hs n) (hne : lab hs n ≠ u) : W.bad :=
  .inr ⟨n, _, _, h.2.2.1 n hl, W.step (h.2.2.1 a ha) ho hn, hne⟩
theorem HInv.put {W : Ways} {hs : List Int} {ex : List Nat} (h : HInv W hs ex) {a n : Nat} {u : Int} (ha : 0 ≤ lab hs a) (ho : W.out a (lab hs a) = some u) (hn : n ∈ W.nx a) (hN : n < W.N) (hl : lab hs n = -1) : HInv W (hs.set n u) (n :: ex) := by
  obtain ⟨h1, h2, h3, h4, h5⟩ := h
  obtain ⟨h0, h40⟩ := W.pos _ _ _ ho
  have hnl : n < hs.length := by rw [h1]; exact hN
  have hne : ∀ r, 0 ≤ lab hs r → r ≠ n := fun r hr e => by subst e; omega
  refine ⟨by rw [List.length_set]; exact h1, fun r hr => ?_, fun b hb => ?_, fun b => ?_, fun b hb => ?_⟩
  · rw [lab_set hnl, if_neg (hne r (by rw [h2 r hr]; omega))]; exact h2 r hr
  · rw [lab_set hnl] at hb ⊢
    split
    · next e => subst e; exact W.step (h3 a ha) ho hn
    · next e => rw [if_neg e] at hb; exact h3 b hb
  · rw [lab_set hnl]
    split
    · exact .inr ⟨h0, h40⟩
    · exact h4 b
  · rw [lab_set hnl] at hb
    by_cases e : b = n
    · exact .inl (by rw [e]; exact List.mem_cons_self)
    · rw [if_neg e] at hb
      rcases h5 b hb with g | ⟨u', g1, g2⟩
      · exact .inl (List.mem_cons_of_mem _ g)
      · right
        refine ⟨u', by rw [lab_set hnl, if_neg e]; exact g1, fun m hm => ?_⟩
        rw [lab_set hnl, if_neg]
        · exact g2 m hm
        · intro em
          subst em
          have e2 := g2 m hm
          have := (W.pos _ _ _ g1).1
          omega
theorem HInv.close {W : Ways} {hs : List Int} {ex : List Nat} {a : Nat} {u : Int} (h : HInv W hs (a :: ex)) (ho : W.out a (lab hs a) = some u) (hn : ∀ n ∈ W.nx a, lab hs n = u) : HInv W hs ex := by
  obtain ⟨h1, h2, h3, h4, h5⟩ := h
  refine ⟨h1, h2, h3, h4, fun b hb => ?_⟩
  rcases h5 b hb with g | g
  · rcases List.mem_cons.1 g with rfl | g
    · exact .inr ⟨u, ho, hn⟩
    · exact .inl g
  · exact .inr g
theorem HInv.reach {W : Ways} {hs : List Int} (h : HInv W hs []) {a : Nat} {v : Int} (hr : W.reach a v) : lab hs a = v ∧ 0 ≤ v := by
  obtain ⟨h1, h2, h3, h4, h5⟩ := h
  refine hr (fun a v => lab hs a = v ∧ 0 ≤ v) (fun r hr => ⟨h2 r hr, Int.le_refl _⟩) ?_
  rintro a v u n ⟨rfl, h0⟩ ho hn
  rcases h5 a h0 with g | ⟨u', g1, g2⟩
  · cases g
  · rw [ho] at g1
    injection g1 with g1
    subst g1
    exact ⟨g2 n hn, (W.pos _ _ _ ho).1⟩
theorem HInv.good {W : Ways} {hs : List Int} (h : HInv W hs []) : ¬ W.bad := by
  rintro (⟨a, v, hr, ho⟩ | ⟨a, v, v', h1, h2, hne⟩)
  · obtain ⟨rfl, h0⟩ := h.reach hr
    rcases h.2.2.2.2 a h0 with g | ⟨u', g1, g2⟩
    · cases g
    · rw [ho] at g1; cases g1
  · exact hne ((h.reach h1).1.symm.trans (h.reach h2).1)
theorem HInv.one {W : Ways} {hs hs' : List Int} (h : HInv W hs []) (h' : HInv W hs' []) : hs = hs' := by
  have key : ∀ a, lab hs a = lab hs' a := by
    intro a
    rcases h.2.2.2.1 a with e | e
    · rcases h'.2.2.2.1 a with e' | e'
      · rw [e, e']
      · have := (h.reach (h'.2.2.1 a e'.1)).1
        omega
    · exact ((h'.reach (h.2.2.1 a e.1)).1).symm
  refine List.ext_getElem (by rw [h.1, h'.1]) (fun a g1 g2 => ?_)
  have := key a
  rwa [lab_in g1, lab_in g2] at this
/-- how many places have no height yet -/
def openN (hs : List Int) : Nat := hs.countP fun v => decide (v = -1)
theorem openN_set : ∀ (hs : List Int) (n : Nat) (u : Int), n < hs.length → lab hs n = -1 → u ≠ -1 → openN (hs.set n u) + 1 = openN hs := by
  intro hs
  induction hs with
  | nil => intro n u h; simp at h
  | cons a hs ih =>
    intro n u h hl hu
    cases n with
    | zero =>
      rw [lab_in h] at hl
      simp only [List.getElem_cons_zero] at hl
      subst hl
      simp only [openN, List.set_cons_zero, List.countP_cons]
      simp [hu]
    | succ n =>
      have h' : n < hs.length := by simpa using h
      have hl' : lab hs n = -1 := by rw [lab_in h] at hl; rw [lab_in h']; simpa using hl
      have := ih n u h' hl' hu
      simp only [openN, List.set_cons_succ, List.countP_cons] at this ⊢
      omega
theorem openN_le (hs : List Int) : openN hs ≤ hs.length := List.countP_le_length
/-- the heights, where they fit -/
noncomputable def Ways.heights (W : Ways) : Option (List Int) := open Classical in if h : ∃ hs, HInv W hs [] then some h.choose else none
theorem Ways.heights_some {W : Ways} {hs : List Int} (h : HInv W hs []) : W.heights = some hs := by
  unfold Ways.heights
  have hex : ∃ hs, HInv W hs [] := ⟨hs, h⟩
  rw [dif_pos hex]
  rw [HInv.one h hex.choose_spec]
theorem Ways.heights_none {W : Ways} (h : W.bad) : W.heights = none := by
  unfold Ways.heights
  rw [dif_neg]
  rintro ⟨hs, g⟩
  exact g.good h
end Go.Proofs.Ytaebmliolpgmdaa
