
/- The word of a code: plain Lean, no program in sight. No condition. -/
import Derived.Test.YtgkjakoagdkpcaaGreatDoorNst
import Derived.Test.YtgkjakoagdkpcaaGreatDoorImP
import Derived.Test.YtgkjakoagdkpcaaGreatDoorGr
import Derived.Test.YtgkjakoagdkpcaaGreatDoorKit
import Derived.Test.YtgkjakoagdkpcaaGreatDoorPt
import Derived.Deep.RegionHeld3
set_option linter.unusedSimpArgs false
set_option linter.unusedVariables false
namespace Go.Proofs.YtgkjakoagdkpcaaGreatDoor

/-- what the labelling is about: how many places, those that are met first, where a place leads, what its height becomes -/
structure Ways where
  N : Nat
  R : List Nat
  nx : Nat → List Nat
  out : Nat → Int → Option Int
  pos : ∀ a v u, out a v = some u → 0 ≤ u ∧ u ≤ 40
/-- ways lead to a with height v -/
def Ways.reach (W : Ways) (a : Nat) (v : Int) : Prop := ∀ P : Nat → Int → Prop, (∀ r ∈ W.R, P r 0) → (∀ a v u n, P a v → W.out a v = some u → n ∈ W.nx a → P n u) → P a v
theorem Ways.root (W : Ways) {r : Nat} (h : r ∈ W.R) : W.reach r 0 := fun P h0 _ => h0 r h
theorem Ways.step (W : Ways) {a n : Nat} {v u : Int} (h : W.reach a v) (ho : W.out a v = some u) (hn : n ∈ W.nx a) : W.reach n u := fun P h0 h1 => h1 a v u n (h P h0 h1) ho hn
/-- the heights do not fit -/
def Ways.bad (W : Ways) : Prop := (∃ a v, W.reach a v ∧ W.out a v = none) ∨ ∃ a v v', W.reach a v ∧ W.reach a v' ∧ v ≠ v'
def lab (hs : List Int) (a : Nat) : Int := hs.getD a (-1)
theorem lab_in {hs : List Int} {a : Nat} (h : a < hs.length) : lab hs a = hs[a] := by simp [lab, List.getD, List.getElem?_eq_getElem h]
theorem lab_out {hs : List Int} {a : Nat} (h : ¬ a < hs.length) : lab hs a = -1 := by simp [lab, List.getD, List.getElem?_eq_none (Nat.le_of_not_lt h)]
theorem lab_set {hs : List Int} {n : Nat} {u : Int} (h : n < hs.length) (a : Nat) : lab (hs.set n u) a = if a = n then u else lab hs a := by
  by_cases e : a = n
  · subst e
    rw [if_pos rfl, lab_in (by rw [List.length_set]; exact h)]; simp
  · rw [if_neg e]
    unfold lab
    simp only [List.getD]
    rw [List.getElem?_set_ne (fun x => e x.symm)]
def closed (W : Ways) (hs : List Int) (a : Nat) : Prop := ∃ u, W.out a (lab hs a) = some u ∧ ∀ n ∈ W.nx a, lab hs n = u
/-- so far: of the places that are not to be done yet each is closed -/
def HInv (W : Ways) (hs : List Int) (ex : List Nat) : Prop :=
  hs.length = W.N ∧ (∀ r ∈ W.R, lab hs r = 0) ∧ (∀ a, 0 ≤ lab hs a → W.reach a (lab hs a)) ∧ (∀ a, lab hs a = -1 ∨ (0 ≤ lab hs a ∧ lab hs a ≤ 40)) ∧ ∀ a, 0 ≤ lab hs a → a ∈ ex ∨ closed W hs a
theorem HInv.mono {W : Ways} {hs : List Int} {ex ex' : List Nat} (h : HInv W hs ex) (hm : ∀ a ∈ ex, a ∈ ex') : HInv W hs ex' := by
  obtain ⟨h1, h2, h3, h4, h5⟩ := h
  exact ⟨h1, h2, h3, h4, fun a ha => (h5 a ha).imp (hm a) id⟩
theorem HInv.lt {W : Ways} {hs : List Int} {ex : List Nat} (h : HInv W hs ex) {a : Nat} (ha : 0 ≤ lab hs a) : a < W.N := by
  by_cases hl : a < hs.length
  · rw [← h.1]; exact hl
  · rw [lab_out hl] at ha; omega
theorem HInv.fail1 {W : Ways} {hs : List Int} {ex : List Nat} (h : HInv W hs ex) {a : Nat} (ha : 0 ≤ lab hs a) (ho : W.out a (lab hs a) = none) : W.bad := .inl ⟨a, _, h.2.2.1 a ha, ho⟩
theorem HInv.fail2 {W : Ways} {hs : List Int} {ex : List Nat} (h : HInv W hs ex) {a n : Nat} {u : Int} (ha : 0 ≤ lab hs a) (ho : W.out a (lab hs a) = some u) (hn : n ∈ W.nx a) (hl : 0 ≤ lab hs n) (hne : lab hs n ≠ u) : W.bad :=
  .inr ⟨n, _, _, h.2.2.1 n hl, W.step (h.2.2.1 a ha) ho hn, hne⟩
theorem HInv.put {W : Ways} {hs : List Int} {ex : List Nat} (h : HInv W hs ex) {a n : Nat} {u : Int} (ha : 0 ≤ lab hs a) (ho : W.out a (lab hs a) = some u) (hn : n ∈ W.nx a) (hN : n < W.N) (hl : lab hs n = -1) : HInv W (hs.set n u) (n :: ex) := by
  obtain ⟨h1, h2, h3, h4, h5⟩ := h
  obtain ⟨h0, h40⟩ := W.pos _ _ _ ho
  have hnl : n < hs.length := by rw [h1]; exact hN
  have hne : ∀ r, 0 ≤ lab hs r → r ≠ n := fun r hr e => by subst e; omega
  refine ⟨by rw [List.length_set]; exact h1, fun r hr => ?_, fun b hb => ?_, fun b => ?_, fun b hb => ?_⟩
  · rw [lab_set hnl, if_neg (hne r (by rw [h2 r hr]; omega))]; exact h2 r hr
  · rw [lab_set hnl] at hb ⊢
    split
    · next e => subst e; exact W.step (h3 a ha) ho hn
    · next e => rw [if_neg e] at hb; exact h3 b hb
  · rw [lab_set hnl]
    split
    · exact .inr ⟨h0, h40⟩
    · exact h4 b
  · rw [lab_set hnl] at hb
    by_cases e : b = n
    · exact .inl (by rw [e]; exact List.mem_cons_self)
    · rw [if_neg e] at hb
      rcases h5 b hb with g | ⟨u', g1, g2⟩
      · exact .inl (List.mem_cons_of_mem _ g)
      · right
        refine ⟨u', by rw [lab_set hnl, if_neg e]; exact g1, fun m hm => ?_⟩
        rw [lab_set hnl, if_neg]
        · exact g2 m hm
        · intro em
          subst em
          have e2 := g2 m hm
          have := (W.pos _ _ _ g1).1
          omega
theorem HInv.close {W : Ways} {hs : List Int} {ex : List Nat} {a : Nat} {u : Int} (h : HInv W hs (a :: ex)) (ho : W.out a (lab hs a) = some u) (hn : ∀ n ∈ W.nx a, lab hs n = u) : HInv W hs ex := by
  obtain ⟨h1, h2, h3, h4, h5⟩ := h
  refine ⟨h1, h2, h3, h4, fun b hb => ?_⟩
  rcases h5 b hb with g | g
  · rcases List.mem_cons.1 g with rfl | g
    · exact .inr ⟨u, ho, hn⟩
    · exact .inl g
  · exact .inr g
theorem HInv.reach {W : Ways} {hs : List Int} (h : HInv W hs []) {a : Nat} {v : Int} (hr : W.reach a v) : lab hs a = v ∧ 0 ≤ v := by
  obtain ⟨h1, h2, h3, h4, h5⟩ := h
  refine hr (fun a v => lab hs a = v ∧ 0 ≤ v) (fun r hr => ⟨h2 r hr, Int.le_refl _⟩) ?_
  rintro a v u n ⟨rfl, h0⟩ ho hn
  rcases h5 a h0 with g | ⟨u', g1, g2⟩
  · cases g
  · rw [ho] at g1
    injection g1 with g1
    subst g1
    exact ⟨g2 n hn, (W.pos _ _ _ ho).1⟩
theorem HInv.good {W : Ways} {hs : List Int} (h : HInv W hs []) : ¬ W.bad := by
  rintro (⟨a, v, hr, ho⟩ | ⟨a, v, v', h1, h2, hne⟩)
  · obtain ⟨rfl, h0⟩ := h.reach hr
    rcases h.2.2.2.2 a h0 with g | ⟨u', g1, g2⟩
    · cases g
    · rw [ho] at g1; cases g1
  · exact hne ((h.reach h1).1.symm.trans (h.reach h2).1)
theorem HInv.one {W : Ways} {hs hs' : List Int} (h : HInv W hs []) (h' : HInv W hs' []) : hs = hs' := by
  have key : ∀ a, lab hs a = lab hs' a := by
    intro a
    rcases h.2.2.2.1 a with e | e
    · rcases h'.2.2.2.1 a with e' | e'
      · rw [e, e']
      · have := (h.reach (h'.2.2.1 a e'.1)).1
        omega
    · exact ((h'.reach (h.2.2.1 a e.1)).1).symm
  refine List.ext_getElem (by rw [h.1, h'.1]) (fun a g1 g2 => ?_)
  have := key a
  rwa [lab_in g1, lab_in g2] at this
/-- how many places have no height yet -/
def openN (hs : List Int) : Nat := hs.countP fun v => decide (v = -1)
theorem openN_set : ∀ (hs : List Int) (n : Nat) (u : Int), n < hs.length → lab hs n = -1 → u ≠ -1 → openN (hs.set n u) + 1 = openN hs := by
  intro hs
  induction hs with
  | nil => intro n u h; simp at h
  | cons a hs ih =>
    intro n u h hl hu
    cases n with
    | zero =>
      rw [lab_in h] at hl
      simp only [List.getElem_cons_zero] at hl
      subst hl
      simp only [openN, List.set_cons_zero, List.countP_cons]
      simp [hu]
    | succ n =>
      have h' : n < hs.length := by simpa using h
      have hl' : lab hs n = -1 := by rw [lab_in h] at hl; rw [lab_in h']; simpa using hl
      have := ih n u h' hl' hu
      simp only [openN, List.set_cons_succ, List.countP_cons] at this ⊢
      omega
theorem openN_le (hs : List Int) : openN hs ≤ hs.length := List.countP_le_length
/-- the heights, where they fit -/
noncomputable def Ways.heights (W : Ways) : Option (List Int) := open Classical in if h : ∃ hs, HInv W hs [] then some h.choose else none
theorem Ways.heights_some {W : Ways} {hs : List Int} (h : HInv W hs []) : W.heights = some hs := by
  unfold Ways.heights
  have hex : ∃ hs, HInv W hs [] := ⟨hs, h⟩
  rw [dif_pos hex]
  rw [HInv.one h hex.choose_spec]
theorem Ways.heights_none {W : Ways} (h : W.bad) : W.heights = none := by
  unfold Ways.heights
  rw [dif_neg]
  rintro ⟨hs, g⟩
  exact g.good h
end Go.Proofs.YtgkjakoagdkpcaaGreatDoor
set_option linter.unusedSimpArgs false
set_option linter.unusedVariables false
namespace Go.Proofs.YtgkjakoagdkpcaaGreatDoor

def c0 : CodeM := ⟨0, 0, [], [], []⟩
/-- what an instruction names is there -/
def namedP (nf vars sites : Int) (t : P2) : Bool :=
  if t.o = 2 ∨ t.o = 3 then decide (t.n < vars) else if t.o = 12 ∨ t.o = 17 then decide (t.n < sites) else if t.o = 7 then decide (t.n < nf) else true
theorem named_var {nf vars sites o n : Int} (h : o = 2 ∨ o = 3) : namedP nf vars sites ⟨o, n⟩ = decide (n < vars) := by unfold namedP; dsimp only; rw [if_pos h]
theorem named_site {nf vars sites o n : Int} (h : o = 12 ∨ o = 17) : namedP nf vars sites ⟨o, n⟩ = decide (n < sites) := by unfold namedP; dsimp only; rw [if_neg (by omega), if_pos h]
theorem named_call {nf vars sites n : Int} : namedP nf vars sites ⟨7, n⟩ = decide (n < nf) := rfl
theorem named_other {nf vars sites o n : Int} (h1 : ¬ (o = 2 ∨ o = 3)) (h2 : ¬ (o = 12 ∨ o = 17)) (h3 : o ≠ 7) : namedP nf vars sites ⟨o, n⟩ = true := by unfold namedP; dsimp only; rw [if_neg h1, if_neg h2, if_neg h3]
def namedI (nf : Int) (c : CodeM) (t : P2) : Bool := namedP nf c.qVars c.qSites.length t
def siteI (l : List CodeM) (n : Int) : Bool := inB n 0 (l.length - 1) && decide ((l.getD n.toNat c0).qParams = 0)
/-- from place a on, each instruction goes on within -/
def goesL (N : Int) : Nat → List P2 → Bool
  | _, [] => true
  | a, t :: l => (nextI t a).all (fun n => inB n 0 (N - 1)) && goesL N (a + 1) l
theorem goesL_step {N : Int} {l : List P2} {k : Nat} (h : k < l.length) : goesL N k (l.drop k) = ((nextI l[k] k).all (fun n => inB n 0 (N - 1)) && goesL N (k + 1) (l.drop (k + 1))) := by
  rw [List.drop_eq_getElem_cons h]; rfl
theorem goesL_all {N : Int} : ∀ (l : List P2) (a : Nat), goesL N a l = true → ∀ k (h : k < l.length), ∀ n ∈ nextI l[k] ((a + k : Nat) : Int), 0 ≤ n ∧ n ≤ N - 1 := by
  intro l
  induction l with
  | nil => intro a _ k h; simp at h
  | cons t l ih =>
    intro a h k hk n hn
    simp only [goesL, Bool.and_eq_true, List.all_eq_true] at h
    cases k with
    | zero => exact inB_iff.1 (h.1 n (by simpa using hn))
    | succ k =>
      have hk' : k < l.length := by simpa using hk
      refine ih (a + 1) h.2 k hk' n ?_
      rw [show a + 1 + k = a + (k + 1) by omega]
      simpa using hn
def outH (l : List CodeM) (t : P2) (v : Int) : Option Int := if v < takes l t ∨ 40 < v - takes l t + puts t then none else some (v - takes l t + puts t)
theorem puts_bd (t : P2) : 0 ≤ puts t ∧ puts t ≤ 1 := by unfold puts; split <;> omega
theorem outH_pos {l : List CodeM} {t : P2} {v u : Int} (h : outH l t v = some u) : 0 ≤ u ∧ u ≤ 40 := by
  unfold outH at h
  split at h
  · cases h
  · next g => injection h with h; have := puts_bd t; omega
theorem outH_none {l : List CodeM} {t : P2} {v : Int} (h : v < takes l t ∨ 40 < v - takes l t + puts t) : outH l t v = none := by unfold outH; rw [if_pos h]
theorem outH_some {l : List CodeM} {t : P2} {v : Int} (h1 : takes l t ≤ v) (h2 : v - takes l t + puts t ≤ 40) : outH l t v = some (v - takes l t + puts t) := by unfold outH; rw [if_neg (by omega)]
/-- the ways of a code -/
def waysOf (l : List CodeM) (c : CodeM) : Ways where
  N := c.qIns.length
  R := 0 :: c.qRows.map fun r => r.p.toNat
  nx := fun a => (nextI (c.qIns.getD a ⟨18, 0⟩) a).map Int.toNat
  out := fun a v => outH l (c.qIns.getD a ⟨18, 0⟩) v
  pos := fun _ _ _ h => outH_pos h
theorem ways_nx {l : List CodeM} {c : CodeM} {a : Nat} (h : a < c.qIns.length) : (waysOf l c).nx a = (nextI c.qIns[a] a).map Int.toNat := by
  show (nextI (c.qIns.getD a ⟨18, 0⟩) a).map Int.toNat = _
  simp [List.getD, List.getElem?_eq_getElem h]
theorem ways_out {l : List CodeM} {c : CodeM} {a : Nat} (h : a < c.qIns.length) (v : Int) : (waysOf l c).out a v = outH l c.qIns[a] v := by
  show outH l (c.qIns.getD a ⟨18, 0⟩) v = _
  simp [List.getD, List.getElem?_eq_getElem h]
/-- it may raise something -/
def raiseB (o : Int) : Bool := decide (o = 4 ∨ o = 7 ∨ o = 13 ∨ o = 14 ∨ o = 16 ∨ o = 17)
def flatB (o : Int) : Bool := decide (o = 18 ∨ o = 16 ∨ o = 14 ∨ o = 17)
def padLow (rows : List R3) (a : Int) : Bool := decide (rowIx a rows 0 < 0) || decide ((rows.getD (rowIx a rows 0).toNat ⟨0, 0, 0⟩).p ≤ a)
def bad6 (rows : List R3) (a v : Int) (t : P2) : Bool := decide (0 ≤ v) && (raiseB t.o && padLow rows a)
def bad7 (v : Int) (t : P2) : Bool := flatB t.o && decide (0 < v)
/-- some place from a on is bad -/
def anyAt (p : Nat → Int → P2 → Bool) : Nat → List Int → List P2 → Bool
  | a, v :: hs, t :: l => p a v t || anyAt p (a + 1) hs l
  | _, _, _ => false
theorem anyAt_step {p : Nat → Int → P2 → Bool} {hs : List Int} {l : List P2} {k : Nat} (h1 : k < hs.length) (h2 : k < l.length) : anyAt p k (hs.drop k) (l.drop k) = (p k hs[k] l[k] || anyAt p (k + 1) (hs.drop (k + 1)) (l.drop (k + 1))) := by
  rw [List.drop_eq_getElem_cons h1, List.drop_eq_getElem_cons h2]; rfl
theorem anyAt_end {p : Nat → Int → P2 → Bool} {hs : List Int} {l : List P2} (h : hs.length = l.length) : anyAt p l.length (hs.drop l.length) (l.drop l.length) = false := by
  rw [List.drop_length, ← h, List.drop_length]; rfl
def codeH (c : CodeM) (hs : List Int) : Int := if anyAt (fun a v t => bad6 c.qRows a v t) 0 hs c.qIns = true then 6 else if anyAt (fun _ v t => bad7 v t) 0 hs c.qIns = true then 7 else 0
/-- what is wrong with a code; 0: nothing -/
noncomputable def codeN (l : List CodeM) (c : CodeM) : Int :=
  if c.qIns.all (namedI l.length c) = false then 1 else if c.qSites.all (siteI l) = false then 2 else if goesL c.qIns.length 0 c.qIns = false then 3 else if rowsOk c.qIns.length 0 c.qRows = false then 4
  else match (waysOf l c).heights with
    | none => 5
    | some hs => codeH c hs

def natI (l : List Nat) : List Int := l.map fun (n : Nat) => (n : Int)
theorem natI_length (l : List Nat) : (natI l).length = l.length := by simp [natI]
theorem natI_append (a b : List Nat) : natI (a ++ b) = natI a ++ natI b := by simp [natI]
theorem natI_get {l : List Nat} {k : Nat} (h : k < l.length) : (natI l)[k]'(by rw [natI_length]; exact h) = (l[k] : Int) := by simp [natI]
/-- what the walk of the heights wants of a code -/
structure Fit (l : List CodeM) (c : CodeM) : Prop where
  n1 : 1 ≤ c.qIns.length
  n3 : c.qIns.length ≤ 300
  ins : ∀ k (h : k < c.qIns.length), insOk c.qIns[k] = true
  tk : ∀ k (h : k < c.qIns.length), c.qIns[k].o = 7 → 0 ≤ c.qIns[k].n ∧ c.qIns[k].n < l.length
  tb : ∀ k (h : k < c.qIns.length), 0 ≤ takes l c.qIns[k] ∧ takes l c.qIns[k] ≤ 2
  nx : ∀ k (h : k < c.qIns.length), ∀ n ∈ nextI c.qIns[k] k, 0 ≤ n ∧ n ≤ (c.qIns.length : Int) - 1
  pad : ∀ k (h : k < c.qRows.length), 0 ≤ c.qRows[k].p ∧ c.qRows[k].p ≤ (c.qIns.length : Int) - 1
  rl : c.qRows.length ≤ 300
theorem set_same {hs : List Int} {p : Nat} (h : lab hs p = 0) (hp : p < hs.length) : hs.set p 0 = hs := by
  rw [lab_in hp] at h
  rw [← h]; exact List.set_getElem_self hp
/-- the first places, so many of them done -/
def St0 (N : Nat) (RK : List Nat) (hs : List Int) (op : List Nat) : Prop :=
  hs.length = N ∧ (∀ a, lab hs a = if a ∈ RK then 0 else -1) ∧ (∀ a ∈ op, a ∈ RK) ∧ (∀ a ∈ RK, a ∈ op) ∧ op.length + openN hs = N ∧ ∀ a ∈ RK, a < N
theorem openN_rep (N : Nat) : openN (List.replicate N (-1)) = N := by
  induction N with
  | zero => rfl
  | succ n ih => rw [List.replicate_succ]; simp only [openN, List.countP_cons] at ih ⊢; simp; omega
theorem St0.init {N : Nat} (h : 1 ≤ N) : St0 N [0] ((List.replicate N (-1)).set 0 0) [0] := by
  have hl : 0 < (List.replicate N (-1 : Int)).length := by simp; omega
  have hlab : ∀ a, lab (List.replicate N (-1)) a = -1 := fun a => by
    by_cases h : a < (List.replicate N (-1 : Int)).length
    · rw [lab_in h]; simp
    · exact lab_out h
  refine ⟨by simp, fun a => ?_, fun a h => h, fun a h => h, ?_, fun a ha => by simp at ha; omega⟩
  · rw [lab_set hl, hlab]; simp
  · have := openN_set (List.replicate N (-1)) 0 0 hl (hlab 0) (by omega)
    rw [openN_rep] at this
    simp; omega
theorem St0.old {N : Nat} {RK RK' : List Nat} {hs : List Int} {op : List Nat} {p : Nat} (h : St0 N RK hs op) (hm : ∀ a, a ∈ RK' ↔ a ∈ RK ∨ a = p) (hl : 0 ≤ lab hs p) : St0 N RK' hs op ∧ lab hs p = 0 := by
  obtain ⟨h1, h2, h3, h4, h5, h6⟩ := h
  have hp : p ∈ RK := by
    by_cases e : p ∈ RK
    · exact e
    · rw [h2 p, if_neg e] at hl; omega
  have hm' : ∀ a, a ∈ RK' ↔ a ∈ RK := fun a => by
    rw [hm]; exact ⟨fun h => h.elim id (fun e => e ▸ hp), .inl⟩
  refine ⟨⟨h1, fun a => ?_, fun a ha => (hm' a).2 (h3 a ha), fun a ha => h4 a ((hm' a).1 ha), h5, fun a ha => h6 a ((hm' a).1 ha)⟩, by rw [h2 p, if_pos hp]⟩
  rw [h2 a]
  by_cases e : a ∈ RK
  · rw [if_pos e, if_pos ((hm' a).2 e)]
  · rw [if_neg e, if_neg (fun x => e ((hm' a).1 x))]
theorem St0.new {N : Nat} {RK RK' : List Nat} {hs : List Int} {op : List Nat} {p : Nat} (h : St0 N RK hs op) (hm : ∀ a, a ∈ RK' ↔ a ∈ RK ∨ a = p) (hl : lab hs p < 0) (hp : p < N) : St0 N RK' (hs.set p 0) (op ++ [p]) := by
  obtain ⟨h1, h2, h3, h4, h5, h6⟩ := h
  have hpl : p < hs.length := by omega
  have hl1 : lab hs p = -1 := by
    have := h2 p
    split at this <;> omega
  refine ⟨by rw [List.length_set]; exact h1, fun a => ?_, fun a ha => ?_, fun a ha => ?_, ?_, fun a ha => ?_⟩
  · rw [lab_set hpl, h2 a]
    by_cases e : a = p
    · rw [if_pos e, if_pos ((hm a).2 (.inr e))]
    · rw [if_neg e]
      by_cases e2 : a ∈ RK
      · rw [if_pos e2, if_pos ((hm a).2 (.inl e2))]
      · rw [if_neg e2, if_neg (fun x => ((hm a).1 x).elim e2 e)]
  · rcases List.mem_append.1 ha with g | g
    · exact (hm a).2 (.inl (h3 a g))
    · exact (hm a).2 (.inr (by simpa using g))
  · rcases (hm a).1 ha with g | g
    · exact List.mem_append.2 (.inl (h4 a g))
    · exact List.mem_append.2 (.inr (by simpa using g))
  · have := openN_set hs p 0 hpl hl1 (by omega)
    rw [List.length_append]; simp; omega
  · rcases (hm a).1 ha with g | g
    · exact h6 a g
    · omega
theorem St0.inv {W : Ways} {hs : List Int} {op : List Nat} (h : St0 W.N W.R hs op) : HInv W hs op ∧ (∀ a ∈ op, 0 ≤ lab hs a) ∧ op.length + openN hs = W.N := by
  obtain ⟨h1, h2, h3, h4, h5, h6⟩ := h
  have hr : ∀ a, 0 ≤ lab hs a → a ∈ W.R := fun a ha => by
    rw [h2 a] at ha
    by_cases e : a ∈ W.R
    · exact e
    · rw [if_neg e] at ha; omega
  refine ⟨⟨h1, fun r hr => by rw [h2 r, if_pos hr], fun a ha => ?_, fun a => ?_, fun a ha => .inl (h4 a (hr a ha))⟩, fun a ha => by rw [h2 a, if_pos (h3 a ha)]; exact Int.le_refl _, h5⟩
  · have := hr a ha
    rw [h2 a, if_pos this]; exact W.root this
  · rw [h2 a]; split
    · right; omega
    · left; rfl
def rootsK (rows : List R3) (k : Nat) : List Nat := 0 :: (rows.take k).map fun r => r.p.toNat
theorem rootsK_zero (rows : List R3) : rootsK rows 0 = [0] := rfl
theorem rootsK_succ {rows : List R3} {k : Nat} (h : k < rows.length) (a : Nat) : a ∈ rootsK rows (k + 1) ↔ a ∈ rootsK rows k ∨ a = rows[k].p.toNat := by
  unfold rootsK
  rw [List.take_succ_eq_append_getElem h, List.map_append]
  simp only [List.mem_cons, List.mem_append, List.map_cons, List.map_nil, List.mem_singleton, List.not_mem_nil, or_false]
  exact ⟨fun h => by rcases h with h | h | h; exact .inl (.inl h); exact .inl (.inr h); exact .inr h, fun h => by rcases h with (h | h) | h; exact .inl h; exact .inr (.inl h); exact .inr (.inr h)⟩
theorem rootsK_all {l : List CodeM} {c : CodeM} : rootsK c.qRows c.qRows.length = (waysOf l c).R := by
  unfold rootsK; rw [List.take_length]; rfl
/-- from place a so many ways are done: the places there have height u -/
def StN (W : Ways) (a : Nat) (v u : Int) (hs : List Int) (op : List Nat) (L : List Int) (q : Nat) : Prop :=
  HInv W hs (a :: op) ∧ lab hs a = v ∧ (∀ b ∈ op, 0 ≤ lab hs b) ∧ (∀ n ∈ L.take q, lab hs n.toNat = u)
theorem next_nil {t : P2} {a : Int} (h : nextI t a = []) : puts t = 0 := by
  unfold nextI at h
  split at h
  · cases h
  split at h
  · simp only [putL] at h
    split at h
    · cases h
    · split at h <;> cases h
  split at h
  · next g => unfold puts; rw [if_neg (by omega)]
  · cases h
theorem StN.skip {W : Ways} {a : Nat} {v u : Int} {hs : List Int} {op : List Nat} {L : List Int} {q : Nat} (h : StN W a v u hs op L q) (hq : q < L.length) (he : lab hs L[q].toNat = u) : StN W a v u hs op L (q + 1) := by
  obtain ⟨h1, h2, h3, h4⟩ := h
  refine ⟨h1, h2, h3, fun n hn => ?_⟩
  rw [List.take_succ_eq_append_getElem hq] at hn
  rcases List.mem_append.1 hn with g | g
  · exact h4 n g
  · rw [List.mem_singleton] at g; rw [g]; exact he
theorem StN.set {W : Ways} {a : Nat} {v u : Int} {hs : List Int} {op : List Nat} {L : List Int} {q : Nat} (h : StN W a v u hs op L q) (hq : q < L.length) (hv : 0 ≤ v) (ho : W.out a v = some u) (hn : L[q].toNat ∈ W.nx a) (hN : L[q].toNat < W.N) (hl : lab hs L[q].toNat < 0) :
    StN W a v u (hs.set L[q].toNat u) (op ++ [L[q].toNat]) L (q + 1) ∧ openN (hs.set L[q].toNat u) + 1 = openN hs := by
  obtain ⟨h1, h2, h3, h4⟩ := h
  have hpos := (W.pos _ _ _ ho).1
  have hl1 : lab hs L[q].toNat = -1 := by rcases h1.2.2.2.1 L[q].toNat with e | e; exact e; omega
  have hpl : L[q].toNat < hs.length := by rw [h1.1]; exact hN
  have hne : ∀ b, 0 ≤ lab hs b → b ≠ L[q].toNat := fun b hb e => by rw [e] at hb; omega
  refine ⟨⟨?_, ?_, fun b hb => ?_, fun n hn' => ?_⟩, openN_set _ _ _ hpl hl1 (by omega)⟩
  · refine (h1.put (a := a) (by rw [h2]; exact hv) (by rw [h2]; exact ho) hn hN hl1).mono (fun b hb => ?_)
    simp only [List.mem_cons, List.mem_append, List.not_mem_nil, or_false] at hb ⊢
    rcases hb with e | e | e
    · exact .inr (.inr e)
    · exact .inl e
    · exact .inr (.inl e)
  · rw [lab_set hpl, if_neg (hne a (by rw [h2]; exact hv))]; exact h2
  · rw [lab_set hpl]
    split
    · exact hpos
    · next e =>
      rcases List.mem_append.1 hb with g | g
      · exact h3 b g
      · exact absurd (by simpa using g) e
  · rw [List.take_succ_eq_append_getElem hq] at hn'
    rw [lab_set hpl]
    split
    · rfl
    · next e =>
      rcases List.mem_append.1 hn' with g | g
      · exact h4 n g
      · rw [List.mem_singleton] at g; rw [g] at e; exact absurd rfl e
theorem StN.done {W : Ways} {a : Nat} {v u : Int} {hs : List Int} {op : List Nat} {L : List Int} (h : StN W a v u hs op L L.length) (ho : W.out a v = some u) (hL : W.nx a = L.map Int.toNat) : HInv W hs op := by
  obtain ⟨h1, h2, h3, h4⟩ := h
  refine h1.close (by rw [h2]; exact ho) (fun n hn => ?_)
  rw [hL] at hn
  obtain ⟨m, hm, rfl⟩ := List.mem_map.1 hn
  exact h4 m (by rw [List.take_length]; exact hm)
theorem StN.clash {W : Ways} {a : Nat} {v u : Int} {hs : List Int} {op : List Nat} {L : List Int} {q : Nat} (h : StN W a v u hs op L q) (hv : 0 ≤ v) (ho : W.out a v = some u) {n : Nat} (hn : n ∈ W.nx a) (hl : 0 ≤ lab hs n) (hne : lab hs n ≠ u) : W.bad := by
  obtain ⟨h1, h2, _, _⟩ := h
  exact h1.fail2 (a := a) (by rw [h2]; exact hv) (by rw [h2]; exact ho) hn hl hne
/-- what the walk hands back -/
def HtR (W : Ways) (b : Bool) (hs : List Int) : Prop := (b = true ∧ HInv W hs []) ∨ (b = false ∧ W.bad ∧ hs = [])
end Go.Proofs.YtgkjakoagdkpcaaGreatDoor
set_option linter.unusedSimpArgs false
set_option linter.unusedVariables false
set_option maxRecDepth 100000
namespace Go.Proofs.YtgkjakoagdkpcaaGreatDoor
open Go.RowKit

theorem raise_yes {o : Int} (h : raiseB o = true) : o = 4 ∨ o = 7 ∨ o = 13 ∨ o = 14 ∨ o = 16 ∨ o = 17 := of_decide_eq_true h
theorem raise_no {o : Int} (h : raiseB o = false) : o ≠ 4 ∧ o ≠ 7 ∧ o ≠ 13 ∧ o ≠ 14 ∧ o ≠ 16 ∧ o ≠ 17 := by
  have := of_decide_eq_false h; omega
theorem impl_mayRaise (o : Int) (w : World) : Calls Tryz.prog 55 #[.int .i64 o] w fun e w' => e = .returned (.bool (raiseB o)) ∧ w = w' := by
  cases h : raiseB o
  · obtain ⟨d1, d2, d3, d4, d5, d6⟩ := raise_no h
    have b1 := int_ne d1; have b2 := int_ne d2; have b3 := int_ne d3; have b4 := int_ne d4; have b5 := int_ne d5; have b6 := int_ne d6
    clear h d1 d2 d3 d4 d5 d6
    go_enter Tryz.func55, Tryz.ntmps55
    go_wp2
    go_ret
    exact ⟨rfl, rfl⟩
  · rcases raise_yes h with rfl | rfl | rfl | rfl | rfl | rfl
    all_goals
      clear h
      go_enter Tryz.func55, Tryz.ntmps55
      go_wp2
      go_ret
      exact ⟨rfl, rfl⟩
theorem spec_l5Raises (o : Int) (w : World) : Calls Tryz.prog 61 #[.int .i64 o] w fun e w' => e = .returned (.bool (raiseB o)) ∧ w = w' := by
  cases h : raiseB o
  · obtain ⟨d1, d2, d3, d4, d5, d6⟩ := raise_no h
    have b1 := int_ne d1; have b2 := int_ne d2; have b3 := int_ne d3; have b4 := int_ne d4; have b5 := int_ne d5; have b6 := int_ne d6
    clear h d1 d2 d3 d4 d5 d6
    go_enter Tryz.func61, Tryz.ntmps61
    go_wp2
    go_ret
    exact ⟨rfl, rfl⟩
  · rcases raise_yes h with rfl | rfl | rfl | rfl | rfl | rfl
    all_goals
      clear h
      go_enter Tryz.func61, Tryz.ntmps61
      go_wp2
      go_ret
      exact ⟨rfl, rfl⟩
theorem dec_lt {a b : Int} (h : a < b) : decide (a < b) = true := decide_eq_true h
theorem dec_ge {a b : Int} (h : ¬ a < b) : decide (a < b) = false := decide_eq_false h
set_option maxHeartbeats 3200000 in
theorem areNamed1 (o n nf vars : Int) (m0 : Int) (A A2 : Option Addr) (N c sn c2 : Nat) (v3 v4 : Value) (g2 g3 : Nat) (w : World) (hN : (N : Int) = nf) (h3 : Bk w g3 39 #[.int .i64 m0, .int .i64 vars, .slice A2 sn c2, v3, v4]) (h2 : Bk w g2 26 #[.slice A N c]) :
    Calls Tryz.prog 77 #[.agg #[.int .i64 o, .int .i64 n], .pointer (some ⟨g3, 0, none⟩), .pointer (some ⟨g2, 0, none⟩)] w fun e w' => e = .returned (.bool (!namedP nf vars sn ⟨o, n⟩)) ∧ Below w.heap.size w w' := by
  have hl3 := h3.lt
  have hl2 := h2.lt
  have p1 := h3.cell 1
  have p2 := h3.cell 2
  have q0 := h2.cell 0
  have Hb := hide ((Below.refl w.heap.size w).alloc (Nat.le_refl _) (.cells #[.int .i64 o, .int .i64 n] 41))
  subst hN
  clear h3 h2
  by_cases c1 : o = 2 ∨ o = 3
  · rw [named_var c1]
    rcases c1 with rfl | rfl
    all_goals
      by_cases h : n < vars
      · rw [dec_lt h]
        go_enter Tryz.func77, Tryz.ntmps77
        go_wp2
        go_ret
        exact ⟨retB (by first | (simp; omega) | simp), Hb.out⟩
      · rw [dec_ge h]
        go_enter Tryz.func77, Tryz.ntmps77
        go_wp2
        go_ret
        exact ⟨retB (by first | (simp; omega) | simp), Hb.out⟩
  by_cases c2' : o = 12 ∨ o = 17
  · rw [named_site c2']
    clear c1
    rcases c2' with rfl | rfl
    all_goals
      by_cases h : n < sn
      · rw [dec_lt h]
        go_enter Tryz.func77, Tryz.ntmps77
        go_wp2
        go_ret
        exact ⟨retB (by first | (simp; omega) | simp), Hb.out⟩
      · rw [dec_ge h]
        go_enter Tryz.func77, Tryz.ntmps77
        go_wp2
        go_ret
        exact ⟨retB (by first | (simp; omega) | simp), Hb.out⟩
  by_cases c3 : o = 7
  · subst c3
    rw [named_call]
    clear c1 c2'
    by_cases h : n < N
    · rw [dec_lt h]
      go_enter Tryz.func77, Tryz.ntmps77
      go_wp2
      go_ret
      exact ⟨retB (by first | (simp; omega) | simp), Hb.out⟩
    · rw [dec_ge h]
      go_enter Tryz.func77, Tryz.ntmps77
      go_wp2
      go_ret
      exact ⟨retB (by first | (simp; omega) | simp), Hb.out⟩
  · rw [named_other c1 c2' c3]
    have b1 : (o == 2) = false := int_ne (by omega)
    have b2 : (o == 3) = false := int_ne (by omega)
    have b3 : (o == 12) = false := int_ne (by omega)
    have b4 : (o == 17) = false := int_ne (by omega)
    have b5 : (o == 7) = false := int_ne (by omega)
    clear c1 c2' c3
    go_enter Tryz.func77, Tryz.ntmps77
    go_wp2
    go_ret
    exact ⟨rfl, Hb.out⟩
set_option maxHeartbeats 1600000 in
theorem impl_areNamed (xs cs : List Value) (x : ImageM) (m : CodeM) (w : World) (hx : RImage w 0 w.heap.size xs x) (hc : RCode w 0 w.heap.size cs m) :
    Calls Tryz.prog 48 #[.agg xs.toArray, .agg cs.toArray] w fun e w' => e = .returned (.bool (m.qIns.all (namedI x.qCodes.length m))) ∧ Below w.heap.size w w' := by
  obtain ⟨v0, rfl, h0⟩ := hx
  obtain ⟨l⟩ := x
  obtain ⟨m0, m1, l2, l3, l4⟩ := m
  obtain ⟨v2, v3, v4, rfl, h2, h3, h4⟩ := hc
  dsimp only at *
  obtain ⟨A, c, rfl⟩ := h0.form
  obtain ⟨A2, c2, rfl⟩ := h2.form
  obtain ⟨A3, c3, rfl⟩ := h3.form
  obtain ⟨A4, c4, rfl⟩ := h4.form
  have hb1 := (Below.refl w.heap.size w).alloc (Nat.le_refl _) (.cells #[.slice A l.length c] 26)
  have hb := hb1.alloc (by rw [World.size_alloc]; omega) (.cells #[.int .i64 m0, .int .i64 m1, .slice A2 l2.length c2, .slice A3 l3.length c3, .slice A4 l4.length c4] 39)
  have hk1 := (Bk.new w 26 #[.slice A l.length c]).alloc (.cells #[.int .i64 m0, .int .i64 m1, .slice A2 l2.length c2, .slice A3 l3.length c3, .slice A4 l4.length c4] 39)
  have hk2 := Bk.new (w.alloc (.cells #[.slice A l.length c] 26)) 39 #[.int .i64 m0, .int .i64 m1, .slice A2 l2.length c2, .slice A3 l3.length c3, .slice A4 l4.length c4]
  rw [World.size_alloc] at hk2
  have hC := anyIns (.slice A3 l3.length c3) l3 (fun t => !namedP l.length m1 l2.length t) 77 #[.pointer (some ⟨w.heap.size + 1, 0, none⟩), .pointer (some ⟨w.heap.size, 0, none⟩)] (enters_of Tryz.func77 (by kernel_rfl) rfl) _ ((h3.here hb).rd) (fun o n W hW => areNamed1 o n l.length m1 m0 A A2 l.length c l2.length c2 _ _ w.heap.size (w.heap.size + 1) W rfl (hk2.below hW) (hk1.below hW))
  have hR : l3.all (namedI l.length ⟨m0, m1, l2, l3, l4⟩) = !(l3.any fun t => !namedP l.length m1 l2.length t) := by
    rw [List.all_eq_not_any_not]; rfl
  rw [hR]
  generalize (l3.any fun t => !namedP l.length m1 l2.length t) = R at *
  have HC := hide hC; have Hb := hide hb; have Hk2 := hide hk2
  clear hC hb hb1 hk1 hk2 h0 h2 h3 h4 hR
  go_enter Tryz.func48, Tryz.ntmps48
  go_wp2_with (go_at_call 75; refine (HC.out).mono ?_; rintro e w1 ⟨rfl, hb1⟩)
  go_ret
  exact ⟨rfl, Hb.out.trans (hb1.mono Hb.out.size)⟩
theorem all_stepN {α : Type} {p : α → Bool} {l : List α} {k : Nat} (h : k < l.length) : (l.drop k).all p = (p l[k] && (l.drop (k + 1)).all p) := by
  rw [List.drop_eq_getElem_cons h]; rfl
set_option maxHeartbeats 3200000 in
theorem spec_l5Named (xs cs : List Value) (x : ImageM) (m : CodeM) (w : World) (hx : RImage w 0 w.heap.size xs x) (hc : RCode w 0 w.heap.size cs m) :
    Calls Tryz.prog 56 #[.agg xs.toArray, .agg cs.toArray] w fun e w' => e = .returned (.bool (m.qIns.all (namedI x.qCodes.length m))) ∧ Below w.heap.size w w' := by
  obtain ⟨v0, rfl, h0⟩ := hx
  obtain ⟨l⟩ := x
  obtain ⟨m0, m1, l2, l3, l4⟩ := m
  obtain ⟨v2, v3, v4, rfl, h2, h3, h4⟩ := hc
  dsimp only at *
  have hl := h0.long
  have hl2 := h2.long
  have hl3 := h3.long
  obtain ⟨A, c, rfl⟩ := h0.form
  obtain ⟨A2, c2, rfl⟩ := h2.form
  obtain ⟨A3, c3, rfl⟩ := h3.form
  obtain ⟨A4, c4, rfl⟩ := h4.form
  have hb1 := (Below.refl w.heap.size w).alloc (Nat.le_refl _) (.cells #[.slice A l.length c] 26)
  have hb := hb1.alloc (by rw [World.size_alloc]; omega) (.cells #[.int .i64 m0, .int .i64 m1, .slice A2 l2.length c2, .slice A3 l3.length c3, .slice A4 l4.length c4] 39)
  have hk1 := (Bk.new w 26 #[.slice A l.length c]).alloc (.cells #[.int .i64 m0, .int .i64 m1, .slice A2 l2.length c2, .slice A3 l3.length c3, .slice A4 l4.length c4] 39)
  have hk2 := Bk.new (w.alloc (.cells #[.slice A l.length c] 26)) 39 #[.int .i64 m0, .int .i64 m1, .slice A2 l2.length c2, .slice A3 l3.length c3, .slice A4 l4.length c4]
  rw [World.size_alloc] at hk2
  have hR : l3.all (namedI l.length ⟨m0, m1, l2, l3, l4⟩) = (l3.drop 0).all (namedP l.length m1 l2.length) := rfl
  rw [hR]
  generalize hR' : (l3.drop 0).all (namedP l.length m1 l2.length) = R
  have HR := hide hR'; have Hb := hide hb; have Hk1 := hide hk1; have Hk2 := hide hk2; have H3 := hide h3.rd
  clear hb hb1 hk1 hk2 h0 h2 h3 h4 hR hR'
  go_enter Tryz.func56, Tryz.ntmps56
  go_wp2
  go_loopw [10] (fun i wr => ∃ k : Nat, k ≤ l3.length ∧ i = .int .i64 k ∧ (l3.drop k).all (namedP l.length m1 l2.length) = R ∧ Below w.heap.size w wr ∧ Bk wr w.heap.size 26 #[.slice A l.length c] ∧ Bk wr (w.heap.size + 1) 39 #[.int .i64 m0, .int .i64 m1, .slice A2 l2.length c2, .slice A3 l3.length c3, .slice A4 l4.length c4]) (fun i _ => l3.length - (intOf i).toNat)
  case atStart => exact ⟨0, by omega, rfl, HR.out, Hb.out, Hk1.out, Hk2.out⟩
  case round =>
    obtain ⟨k, hk, rfl, hall, hb, hk1, hk2⟩ := hrel
    have hbs := hb.size
    have hl1 := hk1.lt
    have hl2' := hk2.lt
    by_cases hlt : k < l3.length
    · obtain ⟨b, o, rfl, hbB, t0, t1⟩ := H3.out.two hlt
      have s0 := (hb.cell (p := ⟨b, o + k * 2, none⟩) hbB).trans t0
      have s1 := (hb.cell (p := ⟨b, o + k * 2 + 1, none⟩) hbB).trans t1
      have hbw : b < wr.heap.size := by omega
      rw [all_stepN hlt] at hall
      have p1 := hk2.cell 1
      have p2 := hk2.cell 2
      have q0 := hk1.cell 0
      have HB := hide (hb.alloc hbs (.cells #[.int .i64 l3[k].o, .int .i64 l3[k].n] 41))
      have HK1 := hide (hk1.alloc (.cells #[.int .i64 l3[k].o, .int .i64 l3[k].n] 41))
      have HK2 := hide (hk2.alloc (.cells #[.int .i64 l3[k].o, .int .i64 l3[k].n] 41))
      clear hb hk1 hk2 t0 t1 H3
      generalize l3[k] = t at *
      obtain ⟨to, tn⟩ := t
      dsimp only at *
      have hyes : namedP l.length m1 l2.length ⟨to, tn⟩ = true → (l3.drop (k + 1)).all (namedP l.length m1 l2.length) = R := fun h => by rw [← hall, h, Bool.true_and]
      have hno : namedP l.length m1 l2.length ⟨to, tn⟩ = false → R = false := fun h => by rw [← hall, h, Bool.false_and]
      clear hall
      have Hyes := hide hyes; have Hno := hide hno; clear hyes hno
      by_cases c1 : to = 2 ∨ to = 3
      · rw [named_var c1] at Hyes Hno
        rcases c1 with rfl | rfl
        all_goals
          by_cases h : tn < m1
          · have HY := hide (Hyes.out (dec_lt h)); clear Hyes Hno
            go_wp2
            go_roundw
            case rel => exact ⟨k + 1, by omega, by go_num, HY.out, HB.out, HK1.out, HK2.out⟩
            case measure => simp [intOf]; omega
          · have HN := hide (Hno.out (dec_ge h)); clear Hyes Hno
            go_wp2
            go_ret
            exact ⟨retB HN.out.symm, HB.out⟩
      by_cases c2' : to = 12 ∨ to = 17
      · rw [named_site c2'] at Hyes Hno
        clear c1
        rcases c2' with rfl | rfl
        all_goals
          by_cases h : tn < l2.length
          · have HY := hide (Hyes.out (dec_lt h)); clear Hyes Hno
            go_wp2
            go_roundw
            case rel => exact ⟨k + 1, by omega, by go_num, HY.out, HB.out, HK1.out, HK2.out⟩
            case measure => simp [intOf]; omega
          · have HN := hide (Hno.out (dec_ge h)); clear Hyes Hno
            go_wp2
            go_ret
            exact ⟨retB HN.out.symm, HB.out⟩
      by_cases c3' : to = 7
      · subst c3'
        rw [named_call] at Hyes Hno
        clear c1 c2'
        by_cases h : tn < l.length
        · have HY := hide (Hyes.out (dec_lt h)); clear Hyes Hno
          go_wp2
          go_roundw
          case rel => exact ⟨k + 1, by omega, by go_num, HY.out, HB.out, HK1.out, HK2.out⟩
          case measure => simp [intOf]; omega
        · have HN := hide (Hno.out (dec_ge h)); clear Hyes Hno
          go_wp2
          go_ret
          exact ⟨retB HN.out.symm, HB.out⟩
      · have HY := hide (Hyes.out (named_other c1 c2' c3')); clear Hyes Hno
        have b1 : (to == 2) = false := int_ne (by omega)
        have b2 : (to == 3) = false := int_ne (by omega)
        have b3 : (to == 12) = false := int_ne (by omega)
        have b4 : (to == 17) = false := int_ne (by omega)
        have b5 : (to == 7) = false := int_ne (by omega)
        clear c1 c2' c3'
        go_wp2
        go_roundw
        case rel => exact ⟨k + 1, by omega, by go_num, HY.out, HB.out, HK1.out, HK2.out⟩
        case measure => simp [intOf]; omega
    · obtain rfl : k = l3.length := by omega
      rw [List.drop_length] at hall
      have HA := hide hall; have HB := hide hb; clear hall hb hk1 hk2
      go_wp2
      go_ret
      exact ⟨retB HA.out, HB.out⟩
end Go.Proofs.YtgkjakoagdkpcaaGreatDoor
set_option linter.unusedSimpArgs false
set_option linter.unusedVariables false
set_option maxRecDepth 100000
namespace Go.Proofs.YtgkjakoagdkpcaaGreatDoor
open Go.RowKit

theorem anyIntG (v : Value) (l : List Int) (p : Int → Bool) (g : Nat) (lb : Array Value) (eg : ∀ args w, (callFunc g args).run Tryz.prog w = .ok (.enter g args) w) (w : World) (hr : Rd w w.heap.size v l.length (icells .i64 l))
    (hp : ∀ n W, Below w.heap.size w W → Calls Tryz.prog g (#[.int .i64 n] ++ lb) W fun e w' => e = .returned (.bool (p n)) ∧ Below W.heap.size W w') :
    Calls Tryz.prog 49 #[v, .func (.func g) #[] lb] w fun e w' => e = .returned (.bool (l.any p)) ∧ Below w.heap.size w w' := by
  have hl := hr.long
  obtain ⟨A, c, rfl, hn, hc, hcell⟩ := id hr
  rw [← anyq_list (q := fun j => p (l.getD j 0)) (p := p) (l := l) (fun j hj => by simp [List.getD, List.getElem?_eq_getElem hj])]
  refine cfI A l.length c (fun j => .int .i64 (l.getD j 0)) _ g lb eg w hl (fun j hj => ?_) (fun j hj W hW => hp _ W hW)
  obtain ⟨b, o, hA, hbB, hs⟩ := hr.at_ (j := j) (by rw [icells_length]; exact hj)
  rw [icells_get _ _ hj] at hs
  exact ⟨b, o, hA, hbB, by rw [hs]; simp [List.getD, List.getElem?_eq_getElem hj]⟩
theorem site_out {l : List CodeM} {n : Int} (h : inB n 0 (l.length - 1) = false) : siteI l n = false := by unfold siteI; rw [h]; rfl
theorem site_in {l : List CodeM} {k : Nat} (h : inB (k : Int) 0 (l.length - 1) = true) (hk : k < l.length) : siteI l k = decide (l[k].qParams = 0) := by
  unfold siteI; rw [h, Bool.true_and, Int.toNat_natCast]
  simp [List.getD, List.getElem?_eq_getElem hk]
theorem in_nat {n : Int} {N : Nat} (h : inB n 0 (N - 1) = true) : ∃ k : Nat, n = (k : Int) ∧ k < N := by
  have := inB_iff.1 h
  exact ⟨n.toNat, by omega, by omega⟩
set_option maxHeartbeats 1600000 in
theorem checkCode1 (n : Int) (A : Option Addr) (c : Nat) (l : List CodeM) (g : Nat) (w : World) (hk : Bk w g 26 #[.slice A l.length c]) (hr : RL RCode 5 w 0 w.heap.size (.slice A l.length c) l) (hl : l.length ≤ 5) :
    Calls Tryz.prog 50 #[.int .i64 n, .pointer (some ⟨g, 0, none⟩)] w fun e w' => e = .returned (.bool (!siteI l n)) ∧ Below w.heap.size w w' := by
  have hgl := hk.lt
  have q0 := hk.cell 0
  have hw := impl_within n 0 (l.length - 1) w
  clear hk
  cases h : inB n 0 (l.length - 1)
  · rw [h] at hw
    rw [site_out h]
    have HW := hide hw; clear h hw hr
    go_enter Tryz.func50, Tryz.ntmps50
    go_wp2_with (go_at_call 24; refine (HW.out).mono ?_; rintro e w1 ⟨rfl, rfl⟩)
    go_ret
    exact ⟨rfl, Below.refl _ _⟩
  · obtain ⟨k, rfl, hkl⟩ := in_nat h
    rw [h] at hw
    rw [site_in h hkl]
    obtain ⟨b, o, v2, v3, v4, rfl, hbB, e0, -, -, -, -, -⟩ := RCode_at hr hkl
    have HW := hide hw; clear h hw hr
    have hkI : (k : Int) < (l.length : Int) := by omega
    have hk0 : (0 : Int) ≤ (k : Int) := by omega
    generalize l[k].qParams = p at *
    by_cases hp : p = 0
    · subst hp
      go_enter Tryz.func50, Tryz.ntmps50
      go_wp2_with (go_at_call 24; refine (HW.out).mono ?_; rintro e w1 ⟨rfl, rfl⟩)
      go_ret
      exact ⟨rfl, Below.refl _ _⟩
    · have hpb : (p != 0) = true := by rw [bne_iff_ne]; exact hp
      rw [decide_eq_false hp]
      clear hp
      go_enter Tryz.func50, Tryz.ntmps50
      go_wp2_with (go_at_call 24; refine (HW.out).mono ?_; rintro e w1 ⟨rfl, rfl⟩)
      go_ret
      exact ⟨rfl, Below.refl _ _⟩
set_option maxHeartbeats 3200000 in
theorem spec_l5SitesGood (xs cs : List Value) (x : ImageM) (m : CodeM) (w : World) (hx : RImage w 0 w.heap.size xs x) (hc : RCode w 0 w.heap.size cs m) (hl5 : x.qCodes.length ≤ 5) :
    Calls Tryz.prog 57 #[.agg xs.toArray, .agg cs.toArray] w fun e w' => e = .returned (.bool (m.qSites.all (siteI x.qCodes))) ∧ Below w.heap.size w w' := by
  obtain ⟨v0, rfl, h0⟩ := hx
  obtain ⟨l⟩ := x
  obtain ⟨m0, m1, l2, l3, l4⟩ := m
  obtain ⟨v2, v3, v4, rfl, h2, h3, h4⟩ := hc
  dsimp only at *
  have hl2 := h2.long
  obtain ⟨A, c, rfl⟩ := h0.form
  obtain ⟨A2, c2, rfl⟩ := h2.form
  obtain ⟨A3, c3, rfl⟩ := h3.form
  obtain ⟨A4, c4, rfl⟩ := h4.form
  have hb1 := (Below.refl w.heap.size w).alloc (Nat.le_refl _) (.cells #[.slice A l.length c] 26)
  have hb := hb1.alloc (by rw [World.size_alloc]; omega) (.cells #[.int .i64 m0, .int .i64 m1, .slice A2 l2.length c2, .slice A3 l3.length c3, .slice A4 l4.length c4] 39)
  have hk1 := (Bk.new w 26 #[.slice A l.length c]).alloc (.cells #[.int .i64 m0, .int .i64 m1, .slice A2 l2.length c2, .slice A3 l3.length c3, .slice A4 l4.length c4] 39)
  generalize hR' : (l2.drop 0).all (siteI l) = R
  have hR : l2.all (siteI l) = R := hR'
  rw [hR]
  have HR := hide hR'; have Hb := hide hb; have Hk1 := hide hk1; have H2 := hide h2.rd; have H0 := hide h0
  clear hb hb1 hk1 h0 h2 h3 h4 hR hR'
  go_enter Tryz.func57, Tryz.ntmps57
  go_wp2
  go_loop [10] (fun i => ∃ k : Nat, k ≤ l2.length ∧ i = .int .i64 k ∧ (l2.drop k).all (siteI l) = R) (fun i => l2.length - (intOf i).toNat)
  case atStart => exact ⟨0, by omega, rfl, HR.out⟩
  case round =>
    obtain ⟨k, hk, rfl, hall⟩ := hrel
    by_cases hlt : k < l2.length
    · obtain ⟨b, o, rfl, hbB, s0⟩ := H2.out.at_ (j := k) (by rw [icells_length]; exact hlt)
      rw [icells_get _ _ hlt] at s0
      rw [all_stepN hlt] at hall
      generalize l2[k] = n at *
      have hyes : siteI l n = true → (l2.drop (k + 1)).all (siteI l) = R := fun h => by rw [← hall, h, Bool.true_and]
      have hno : siteI l n = false → R = false := fun h => by rw [← hall, h, Bool.false_and]
      have hw := fun w => spec_l1In n 0 (l.length - 1) w
      have q0 := Hk1.out.cell 0
      have s0' := (Hb.out.cell (p := ⟨b, o + k, none⟩) hbB).trans s0
      clear hall H2 s0
      cases h : inB n 0 (l.length - 1)
      · simp only [h] at hw
        have HN := hide (hno (site_out h)); have HW := Lib.hid hw; clear hyes hno hw h
        go_wp2_with (go_at_call 28; refine (HW.out _).mono ?_; rintro e w1 ⟨rfl, rfl⟩)
        go_ret
        exact ⟨retB HN.out.symm, Hb.out⟩
      · obtain ⟨j, rfl, hj⟩ := in_nat h
        simp only [h] at hw
        have hsi := site_in h hj
        obtain ⟨b2, o2, v2, v3, v4, rfl, hbB2, e0, -, -, -, -, -⟩ := RCode_at H0.out hj
        have e0' := (Hb.out.cell (p := ⟨b2, o2 + j * 5, none⟩) hbB2).trans e0
        have hjI : (j : Int) < (l.length : Int) := by omega
        have hj0 : (0 : Int) ≤ (j : Int) := by omega
        rw [hsi] at hyes hno
        have HW := Lib.hid hw; clear hw h hsi e0 H0
        generalize l[j].qParams = p at *
        by_cases hp : p = 0
        · have HY := hide (hyes (decide_eq_true hp)); clear hyes hno
          subst hp
          go_wp2_with (go_at_call 28; refine (HW.out _).mono ?_; rintro e w1 ⟨rfl, rfl⟩)
          go_round
          case rel => exact ⟨k + 1, by omega, by go_num, HY.out⟩
          case measure => simp [intOf]; omega
        · have hpb : (p != 0) = true := by rw [bne_iff_ne]; exact hp
          have HN := hide (hno (decide_eq_false hp)); clear hyes hno hp
          go_wp2_with (go_at_call 28; refine (HW.out _).mono ?_; rintro e w1 ⟨rfl, rfl⟩)
          go_ret
          exact ⟨retB HN.out.symm, Hb.out⟩
    · obtain rfl : k = l2.length := by omega
      rw [List.drop_length] at hall
      have HA := hide hall; clear hall
      go_wp2
      go_ret
      exact ⟨retB HA.out, Hb.out⟩

theorem below_undrewG {B : Nat} {a w : World} (h : Below B a.drew w) : Below B a w := ⟨h.os, h.tape, h.output, h.size, h.block⟩
theorem next_ge {t : P2} {a : Int} (h : insOk t = true) (ha : 0 ≤ a) : ∀ n ∈ nextI t a, 0 ≤ n := by
  obtain ⟨o, n⟩ := t
  have hn : o = 10 ∨ o = 11 → 0 ≤ n := fun ho => by
    rw [insOk_n (by omega) (by omega) (by unfold hasNB; exact decide_eq_true (by omega))] at h
    exact (inB_iff.1 h).1
  intro m hm
  unfold nextI at hm
  dsimp only at hm
  split at hm
  · next ho => rw [List.mem_singleton] at hm; have := hn (.inl ho); omega
  split at hm
  · next ho =>
    have := hn (.inr ho)
    simp only [putL] at hm
    split at hm
    · simp at hm; omega
    · split at hm
      · simp at hm; omega
      · simp at hm; omega
  split at hm
  · cases hm
  · rw [List.mem_singleton] at hm; omega
theorem any_out {t : P2} {a : Int} {N : Nat} (h : insOk t = true) (ha : 0 ≤ a) : ((nextI t a).any fun n => decide ((N : Int) ≤ n)) = !((nextI t a).all fun n => inB n 0 (N - 1)) := by
  have hg := next_ge h ha
  rw [List.all_eq_not_any_not, Bool.not_not]
  generalize nextI t a = L at *
  clear h
  induction L with
  | nil => rfl
  | cons x L ih =>
    rw [List.any_cons, List.any_cons, ih (fun n hn => hg n (List.mem_cons_of_mem _ hn))]
    congr 1
    have h0 := hg x List.mem_cons_self
    unfold inB
    by_cases hx : (N : Int) ≤ x
    · rw [decide_eq_true hx, decide_eq_false (by omega)]; rfl
    · rw [decide_eq_false hx, decide_eq_true (by omega)]; rfl
theorem goesOn1 (n : Int) (A : Option Addr) (c N g : Nat) (w : World) (hk : Bk w g 36 #[.slice A N c]) :
    Calls Tryz.prog 79 #[.int .i64 n, .pointer (some ⟨g, 0, none⟩)] w fun e w' => e = .returned (.bool (decide ((N : Int) ≤ n))) ∧ Below w.heap.size w w' := by
  have hgl := hk.lt
  have q0 := hk.cell 0
  clear hk
  by_cases h : (N : Int) ≤ n
  · rw [decide_eq_true h]
    go_enter Tryz.func79, Tryz.ntmps79
    go_wp2
    go_ret
    exact ⟨retB (by first | (simp; omega) | simp), Below.refl _ _⟩
  · rw [decide_eq_false h]
    go_enter Tryz.func79, Tryz.ntmps79
    go_wp2
    go_ret
    exact ⟨retB (by first | (simp; omega) | simp), Below.refl _ _⟩
set_option maxHeartbeats 3200000 in
theorem impl_goesOn (v : Value) (l : List P2) (w : World) (hr : Rd w w.heap.size v l.length (pcells l)) (hl : l.length ≤ 300) (hok : ∀ t ∈ l, insOk t = true) :
    Calls Tryz.prog 51 #[v] w fun e w' => e = .returned (.bool (goesL l.length 0 l)) ∧ Below w.heap.size w w' := by
  obtain ⟨A, c, rfl, _, _, _⟩ := id hr
  have eg := enters_of Tryz.func79 (by kernel_rfl) rfl
  generalize hR' : goesL l.length 0 (l.drop 0) = R
  have hR : goesL l.length 0 l = R := hR'
  rw [hR]
  have HR := hide hR'; have Hr := hide hr; have Hok := hide hok
  have Hb := hide ((Below.refl w.heap.size w).alloc (Nat.le_refl _) (.cells #[.slice A l.length c] 36))
  have Hk := hide (Bk.new w 36 #[.slice A l.length c])
  have Eg := Lib.hid eg
  clear hR hR' hr hok eg
  go_enter Tryz.func51, Tryz.ntmps51
  go_wp2
  go_loopw [7] (fun i wr => ∃ k : Nat, k ≤ l.length ∧ i = .int .i64 k ∧ goesL l.length k (l.drop k) = R ∧ Below w.heap.size w wr ∧ Bk wr w.heap.size 36 #[.slice A l.length c]) (fun i _ => l.length - (intOf i).toNat)
  case atStart => exact ⟨0, by omega, rfl, HR.out, Hb.out, Hk.out⟩
  case round =>
    obtain ⟨k, hk, rfl, hg, hb, hbk⟩ := hrel
    have hbs := hb.size
    by_cases hlt : k < l.length
    · obtain ⟨b, o, rfl, hbB, t0, t1⟩ := Hr.out.two hlt
      have s0 := (hb.cell (p := ⟨b, o + k * 2, none⟩) hbB).trans t0
      have s1 := (hb.cell (p := ⟨b, o + k * 2 + 1, none⟩) hbB).trans t1
      have hbw : b < wr.heap.size := by omega
      rw [goesL_step hlt] at hg
      have hins := Hok.out _ (List.getElem_mem hlt)
      have HB := hide (hb.alloc hbs (.cells #[.int .i64 l[k].o, .int .i64 l[k].n] 41))
      have HK := hide (hbk.alloc (.cells #[.int .i64 l[k].o, .int .i64 l[k].n] 41))
      clear hb hbk t0 t1 Hr
      generalize l[k] = t at *
      have hany := any_out (N := l.length) hins (a := k) (by omega)
      obtain ⟨to, tn⟩ := t
      dsimp only at *
      have hC := fun W => impl_nextOf to tn k W (by omega) (by omega)
      have hA := fun v W (hW : Bk W w.heap.size 36 #[.slice (some ⟨b, o, none⟩) l.length c]) hrd => anyIntG v (nextI ⟨to, tn⟩ k) (fun n => decide ((l.length : Int) ≤ n)) 79 #[.pointer (some ⟨w.heap.size, 0, none⟩)] Eg.out W hrd (fun n W' hW' => goesOn1 n _ c l.length w.heap.size W' (hW.below hW'))
      rw [hany] at hA
      generalize nextI ⟨to, tn⟩ k = L at *
      have HC := Lib.hid hC
      cases hall : L.all (fun n => inB n 0 (l.length - 1))
      · rw [hall] at hA hg
        rw [Bool.false_and] at hg
        have HA := Lib.hid hA; have HF := hide hg; clear hA hC hall hg hany hins Hok Eg
        go_wp2_with (first
          | (go_at_call 33; refine (HC.out _).mono ?_; rintro e w5 ⟨v5, rfl, hown5, hb5⟩; have HB5 := hide (HB.out.trans (hb5.mono HB.out.size)); have HA5 := hide (HA.out v5 w5 (HK.out.below hb5) (Rd.of_own hown5)); clear hown5 hb5)
          | (go_at_call 49; refine (HA5.out).mono ?_; rintro e w6 ⟨rfl, hb6⟩))
        go_ret
        exact ⟨retB HF.out, HB5.out.trans (hb6.mono HB5.out.size)⟩
      · rw [hall] at hA hg
        rw [Bool.true_and] at hg
        have HA := Lib.hid hA; have HF := hide hg; clear hA hC hall hg hany hins Hok Eg
        go_wp2_with (first
          | (go_at_call 33; refine (HC.out _).mono ?_; rintro e w5 ⟨v5, rfl, hown5, hb5⟩; have HB5 := hide (HB.out.trans (hb5.mono HB.out.size)); have HK5 := hide (HK.out.below hb5); have HA5 := hide (HA.out v5 w5 HK5.out (Rd.of_own hown5)); clear hown5 hb5)
          | (go_at_call 49; refine (HA5.out).mono ?_; rintro e w6 ⟨rfl, hb6⟩; have HB6 := hide (HB5.out.trans (hb6.mono HB5.out.size)); have HK6 := hide (HK5.out.below hb6); clear hb6))
        go_roundw
        case rel => exact ⟨k + 1, by omega, by go_num, HF.out, HB6.out, HK6.out⟩
        case measure => simp [intOf]; omega
    · obtain rfl : k = l.length := by omega
      rw [List.drop_length] at hg
      have HA := hide hg; have HB := hide hb; clear hg hb hbk
      go_wp2
      go_ret
      exact ⟨retB HA.out, HB.out⟩
set_option maxHeartbeats 3200000 in
theorem spec_l5Goes (cs : List Value) (m : CodeM) (w : World) (hc : RCode w 0 w.heap.size cs m) (hl : m.qIns.length ≤ 300) :
    Calls Tryz.prog 58 #[.agg cs.toArray] w fun e w' => e = .returned (.bool (goesL m.qIns.length 0 m.qIns)) ∧ Below w.heap.size w w' := by
  obtain ⟨m0, m1, l2, l, l4⟩ := m
  obtain ⟨v2, v3, v4, rfl, h2, h3, h4⟩ := hc
  dsimp only at *
  obtain ⟨A2, c2, rfl⟩ := h2.form
  obtain ⟨A3, c3, rfl⟩ := h3.form
  obtain ⟨A4, c4, rfl⟩ := h4.form
  generalize hR' : goesL l.length 0 (l.drop 0) = R
  have hR : goesL l.length 0 l = R := hR'
  rw [hR]
  have HR := hide hR'; have Hr := hide h3.rd
  have Hb := hide ((Below.refl w.heap.size w).alloc (Nat.le_refl _) (.cells #[.int .i64 m0, .int .i64 m1, .slice A2 l2.length c2, .slice A3 l.length c3, .slice A4 l4.length c4] 39))
  have Hk := hide (Bk.new w 39 #[.int .i64 m0, .int .i64 m1, .slice A2 l2.length c2, .slice A3 l.length c3, .slice A4 l4.length c4])
  clear hR hR' h2 h3 h4
  go_enter Tryz.func58, Tryz.ntmps58
  go_wp2
  go_loopw [8] (fun i wr => ∃ k : Nat, k ≤ l.length ∧ i = .int .i64 k ∧ goesL l.length k (l.drop k) = R ∧ Below w.heap.size w wr ∧ Bk wr w.heap.size 39 #[.int .i64 m0, .int .i64 m1, .slice A2 l2.length c2, .slice A3 l.length c3, .slice A4 l4.length c4]) (fun i _ => l.length - (intOf i).toNat)
  case atStart => exact ⟨0, by omega, rfl, HR.out, Hb.out, Hk.out⟩
  case round =>
    obtain ⟨k, hk, rfl, hg, hb, hbk⟩ := hrel
    have hbs := hb.size
    by_cases hlt : k < l.length
    · obtain ⟨b, o, rfl, hbB, t0, t1⟩ := Hr.out.two hlt
      have s0 := (hb.cell (p := ⟨b, o + k * 2, none⟩) hbB).trans t0
      have s1 := (hb.cell (p := ⟨b, o + k * 2 + 1, none⟩) hbB).trans t1
      have hbw : b < wr.heap.size := by omega
      rw [goesL_step hlt] at hg
      have HB := hide (hb.alloc hbs (.cells #[.int .i64 l[k].o, .int .i64 l[k].n] 41))
      have HK := hide (hbk.alloc (.cells #[.int .i64 l[k].o, .int .i64 l[k].n] 41))
      have HI := hide (Bk.new wr 41 #[.int .i64 l[k].o, .int .i64 l[k].n])
      clear hb hbk t0 t1 Hr
      generalize l[k] = t at *
      obtain ⟨to, tn⟩ := t
      dsimp only at *
      have hwr : IntKind.i64.wrap ((l.length : Int) - 1) = (l.length : Int) - 1 := by simp [IntKind.wrap, IntKind.bits, IntKind.signed]; omega
      have Hwr := hide hwr; clear hwr
      have hC := fun W => spec_l5Next to tn k W (by omega) (by omega)
      have hA : ∀ (v : Value) (W : World), Rd W W.heap.size v (nextI ⟨to, tn⟩ k).length (icells .i64 (nextI ⟨to, tn⟩ k)) → Calls Tryz.prog 83 #[v, .int .i64 0, .int .i64 (l.length - 1)] W fun e w' => e = .returned (.bool ((nextI ⟨to, tn⟩ k).all fun n => inB n 0 (l.length - 1))) ∧ W = w' := fun v W hrd => spec_l1All v _ 0 (l.length - 1) W _ hrd
      generalize nextI ⟨to, tn⟩ k = L at *
      have HC := Lib.hid hC
      cases hall : L.all (fun n => inB n 0 (l.length - 1))
      · rw [hall] at hA hg
        rw [Bool.false_and] at hg
        have HA := Lib.hid hA; have HF := hide hg; clear hA hC hall hg
        go_wp2_with fail
        go_region_held3 (fun w' => w'.cell? ⟨w.heap.size, 3, none⟩ = some (.slice (some ⟨b, o, none⟩) l.length c3) ∧ w'.cell? ⟨wr.heap.size, 0, none⟩ = some (.int .i64 to) ∧ w'.cell? ⟨wr.heap.size, 1, none⟩ = some (.int .i64 tn)) (first | exact ⟨HK.out.cell 3, HI.out.cell 0, HI.out.cell 1⟩ | exact ⟨HK5.out.cell 3, HI5.out.cell 0, HI5.out.cell 1⟩)
          (first
            | (go_at_call 39; refine (HC.out _).mono ?_; rintro e w5 ⟨v5, rfl, hown5, hb5⟩; replace hb5 := below_undrewG hb5; have HB5 := hide (HB.out.trans (hb5.mono HB.out.size)); have HK5 := hide (HK.out.below hb5); have HI5 := hide (HI.out.below hb5); have HA5 := hide (HA.out v5 w5 (Rd.of_own hown5)); clear hown5 hb5)
            | (go_at_call 83; rw [Hwr.out]; refine (HA5.out).mono ?_; rintro e w6 ⟨rfl, rfl⟩))
        go_wp2
        go_ret
        exact ⟨retB HF.out, HB5.out⟩
      · rw [hall] at hA hg
        rw [Bool.true_and] at hg
        have HA := Lib.hid hA; have HF := hide hg; clear hA hC hall hg
        go_wp2_with fail
        go_region_held3 (fun w' => w'.cell? ⟨w.heap.size, 3, none⟩ = some (.slice (some ⟨b, o, none⟩) l.length c3) ∧ w'.cell? ⟨wr.heap.size, 0, none⟩ = some (.int .i64 to) ∧ w'.cell? ⟨wr.heap.size, 1, none⟩ = some (.int .i64 tn)) (first | exact ⟨HK.out.cell 3, HI.out.cell 0, HI.out.cell 1⟩ | exact ⟨HK5.out.cell 3, HI5.out.cell 0, HI5.out.cell 1⟩)
          (first
            | (go_at_call 39; refine (HC.out _).mono ?_; rintro e w5 ⟨v5, rfl, hown5, hb5⟩; replace hb5 := below_undrewG hb5; have HB5 := hide (HB.out.trans (hb5.mono HB.out.size)); have HK5 := hide (HK.out.below hb5); have HI5 := hide (HI.out.below hb5); have HA5 := hide (HA.out v5 w5 (Rd.of_own hown5)); clear hown5 hb5)
            | (go_at_call 83; rw [Hwr.out]; refine (HA5.out).mono ?_; rintro e w6 ⟨rfl, rfl⟩))
        go_wp2
        go_roundw
        case rel => exact ⟨k + 1, by omega, by go_num, HF.out, HB5.out, HK5.out⟩
        case measure => simp [intOf]; omega
    · obtain rfl : k = l.length := by omega
      rw [List.drop_length] at hg
      have HA := hide hg; have HB := hide hb; clear hg hb hbk
      go_wp2
      go_ret
      exact ⟨retB HA.out, HB.out⟩
end Go.Proofs.YtgkjakoagdkpcaaGreatDoor
