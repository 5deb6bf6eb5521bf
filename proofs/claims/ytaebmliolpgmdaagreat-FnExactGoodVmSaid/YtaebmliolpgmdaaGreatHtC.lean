
/- The word of a code: plain Lean, no program in sight. No condition. -/
import Derived.Test.YtaebmliolpgmdaaGreatP2
import Derived.Test.YtaebmliolpgmdaaGreatImP
import Derived.Test.YtaebmliolpgmdaaGreatGr
import Derived.Test.YtaebmliolpgmdaaGreatKit
set_option linter.unusedSimpArgs false
set_option linter.unusedVariables false
namespace Go.Proofs.YtaebmliolpgmdaaGreat

/-- what the labelling is about: how many places, those that are met first, where a place leads, what its height becomes -/
structure Ways where
  N : Nat
  R : List Nat
  nx : Nat → List Nat
  out : Nat → Int → Option Int
  pos : ∀ a v u, out a v = some u → 0 ≤ u ∧ u ≤ 40
/-- ways lead to a with height v -/
def Ways.reach (W : Ways) (a : Nat) (v : Int) : Prop := ∀ P : Nat → Int → Prop, (∀ r ∈ W.R, P r 0) → (∀ a v u n, P a v → W.out a v = some u → n ∈ W.nx a → P n u) → P a v
theorem Ways.root (W : Ways) {r : Nat} (h : r ∈ W.R) : W.reach r 0 := fun P h0 _ => h0 r h
theorem Ways.step (W : Ways) {a n : Nat} {v u : Int} (h : W.reach a v) (ho : W.out a v = some u) (hn : n ∈ W.nx a) : W.reach n u := fun P h0 h1 => h1 a v u n (h P h0 h1) ho hn
/-- the heights do not fit -/
def Ways.bad (W : Ways) : Prop := (∃ a v, W.reach a v ∧ W.out a v = none) ∨ ∃ a v v', W.reach a v ∧ W.reach a v' ∧ v ≠ v'
def lab (hs : List Int) (a : Nat) : Int := hs.getD a (-1)
theorem lab_in {hs : List Int} {a : Nat} (h : a < hs.length) : lab hs a = hs[a] := by simp [lab, List.getD, List.getElem?_eq_getElem h]
theorem lab_out {hs : List Int} {a : Nat} (h : ¬ a < hs.length) : lab hs a = -1 := by simp [lab, List.getD, List.getElem?_eq_none (Nat.le_of_not_lt h)]
theorem lab_set {hs : List Int} {n : Nat} {u : Int} (h : n < hs.length) (a : Nat) : lab (hs.set n u) a = if a = n then u else lab hs a := by
  by_cases e : a = n
  · subst e
    rw [if_pos rfl, lab_in (by rw [List.length_set]; exact h)]; simp
  · rw [if_neg e]
    unfold lab
    simp only [List.getD]
    rw [List.getElem?_set_ne (fun x => e x.symm)]
def closed (W : Ways) (hs : List Int) (a : Nat) : Prop := ∃ u, W.out a (lab hs a) = some u ∧ ∀ n ∈ W.nx a, lab hs n = u
/-- so far: of the places that are not to be done yet each is closed -/
def HInv (W : Ways) (hs : List Int) (ex : List Nat) : Prop :=
  hs.length = W.N ∧ (∀ r ∈ W.R, lab hs r = 0) ∧ (∀ a, 0 ≤ lab hs a → W.reach a (lab hs a)) ∧ (∀ a, lab hs a = -1 ∨ (0 ≤ lab hs a ∧ lab hs a ≤ 40)) ∧ ∀ a, 0 ≤ lab hs a → a ∈ ex ∨ closed W hs a
theorem HInv.mono {W : Ways} {hs : List Int} {ex ex' : List Nat} (h : HInv W hs ex) (hm : ∀ a ∈ ex, a ∈ ex') : HInv W hs ex' := by
  obtain ⟨h1, h2, h3, h4, h5⟩ := h
  exact ⟨h1, h2, h3, h4, fun a ha => (h5 a ha).imp (hm a) id⟩
theorem HInv.lt {W : Ways} {hs : List Int} {ex : List Nat} (h : HInv W hs ex) {a : Nat} (ha : 0 ≤ lab hs a) : a < W.N := by
  by_cases hl : a < hs.length
  · rw [← h.1]; exact hl
  · rw [lab_out hl] at ha; omega
theorem HInv.fail1 {W : Ways} {hs : List Int} {ex : List Nat} (h : HInv W hs ex) {a : Nat} (ha : 0 ≤ lab hs a) (ho : W.out a (lab hs a) = none) : W.bad := .inl ⟨a, _, h.2.2.1 a ha, ho⟩
theorem HInv.fail2 {W : Ways} {hs : List Int} {ex : List Nat} (h : HInv W hs ex) {a n : Nat} {u : Int} (ha : 0 ≤ lab hs a) (ho : W.out a (lab hs a) = some u) (hn : n ∈ W.nx a) (hl : 0 ≤ lab hs n) (hne : lab hs n ≠ u) : W.bad :=
  .inr ⟨n, _, _, h.2.2.1 n hl, W.step (h.2.2.1 a ha) ho hn, hne⟩
theorem HInv.put {W : Ways} {hs : List Int} {ex : List Nat} (h : HInv W hs ex) {a n : Nat} {u : Int} (ha : 0 ≤ lab hs a) (ho : W.out a (lab hs a) = some u) (hn : n ∈ W.nx a) (hN : n < W.N) (hl : lab hs n = -1) : HInv W (hs.set n u) (n :: ex) := by
  obtain ⟨h1, h2, h3, h4, h5⟩ := h
  obtain ⟨h0, h40⟩ := W.pos _ _ _ ho
  have hnl : n < hs.length := by rw [h1]; exact hN
  have hne : ∀ r, 0 ≤ lab hs r → r ≠ n := fun r hr e => by subst e; omega
  refine ⟨by rw [List.length_set]; exact h1, fun r hr => ?_, fun b hb => ?_, fun b => ?_, fun b hb => ?_⟩
  · rw [lab_set hnl, if_neg (hne r (by rw [h2 r hr]; omega))]; exact h2 r hr
  · rw [lab_set hnl] at hb ⊢
    split
    · next e => subst e; exact W.step (h3 a ha) ho hn
    · next e => rw [if_neg e] at hb; exact h3 b hb
  · rw [lab_set hnl]
    split
    · exact .inr ⟨h0, h40⟩
    · exact h4 b
  · rw [lab_set hnl] at hb
    by_cases e : b = n
    · exact .inl (by rw [e]; exact List.mem_cons_self)
    · rw [if_neg e] at hb
      rcases h5 b hb with g | ⟨u', g1, g2⟩
      · exact .inl (List.mem_cons_of_mem _ g)
      · right
        refine ⟨u', by rw [lab_set hnl, if_neg e]; exact g1, fun m hm => ?_⟩
        rw [lab_set hnl, if_neg]
        · exact g2 m hm
        · intro em
          subst em
          have e2 := g2 m hm
          have := (W.pos _ _ _ g1).1
          omega
theorem HInv.close {W : Ways} {hs : List Int} {ex : List Nat} {a : Nat} {u : Int} (h : HInv W hs (a :: ex)) (ho : W.out a (lab hs a) = some u) (hn : ∀ n ∈ W.nx a, lab hs n = u) : HInv W hs ex := by
  obtain ⟨h1, h2, h3, h4, h5⟩ := h
  refine ⟨h1, h2, h3, h4, fun b hb => ?_⟩
  rcases h5 b hb with g | g
  · rcases List.mem_cons.1 g with rfl | g
    · exact .inr ⟨u, ho, hn⟩
    · exact .inl g
  · exact .inr g
theorem HInv.reach {W : Ways} {hs : List Int} (h : HInv W hs []) {a : Nat} {v : Int} (hr : W.reach a v) : lab hs a = v ∧ 0 ≤ v := by
  obtain ⟨h1, h2, h3, h4, h5⟩ := h
  refine hr (fun a v => lab hs a = v ∧ 0 ≤ v) (fun r hr => ⟨h2 r hr, Int.le_refl _⟩) ?_
  rintro a v u n ⟨rfl, h0⟩ ho hn
  rcases h5 a h0 with g | ⟨u', g1, g2⟩
  · cases g
  · rw [ho] at g1
    injection g1 with g1
    subst g1
    exact ⟨g2 n hn, (W.pos _ _ _ ho).1⟩
theorem HInv.good {W : Ways} {hs : List Int} (h : HInv W hs []) : ¬ W.bad := by
  rintro (⟨a, v, hr, ho⟩ | ⟨a, v, v', h1, h2, hne⟩)
  · obtain ⟨rfl, h0⟩ := h.reach hr
    rcases h.2.2.2.2 a h0 with g | ⟨u', g1, g2⟩
    · cases g
    · rw [ho] at g1; cases g1
  · exact hne ((h.reach h1).1.symm.trans (h.reach h2).1)
theorem HInv.one {W : Ways} {hs hs' : List Int} (h : HInv W hs []) (h' : HInv W hs' []) : hs = hs' := by
  have key : ∀ a, lab hs a = lab hs' a := by
    intro a
    rcases h.2.2.2.1 a with e | e
    · rcases h'.2.2.2.1 a with e' | e'
      · rw [e, e']
      · have := (h.reach (h'.2.2.1 a e'.1)).1
        omega
    · exact ((h'.reach (h.2.2.1 a e.1)).1).symm
  refine List.ext_getElem (by rw [h.1, h'.1]) (fun a g1 g2 => ?_)
  have := key a
  rwa [lab_in g1, lab_in g2] at this
/-- how many places have no height yet -/
def openN (hs : List Int) : Nat := hs.countP fun v => decide (v = -1)
theorem openN_set : ∀ (hs : List Int) (n : Nat) (u : Int), n < hs.length → lab hs n = -1 → u ≠ -1 → openN (hs.set n u) + 1 = openN hs := by
  intro hs
  induction hs with
  | nil => intro n u h; simp at h
  | cons a hs ih =>
    intro n u h hl hu
    cases n with
    | zero =>
      rw [lab_in h] at hl
      simp only [List.getElem_cons_zero] at hl
      subst hl
      simp only [openN, List.set_cons_zero, List.countP_cons]
      simp [hu]
    | succ n =>
      have h' : n < hs.length := by simpa using h
      have hl' : lab hs n = -1 := by rw [lab_in h] at hl; rw [lab_in h']; simpa using hl
      have := ih n u h' hl' hu
      simp only [openN, List.set_cons_succ, List.countP_cons] at this ⊢
      omega
theorem openN_le (hs : List Int) : openN hs ≤ hs.length := List.countP_le_length
/-- the heights, where they fit -/
noncomputable def Ways.heights (W : Ways) : Option (List Int) := open Classical in if h : ∃ hs, HInv W hs [] then some h.choose else none
theorem Ways.heights_some {W : Ways} {hs : List Int} (h : HInv W hs []) : W.heights = some hs := by
  unfold Ways.heights
  have hex : ∃ hs, HInv W hs [] := ⟨hs, h⟩
  rw [dif_pos hex]
  rw [HInv.one h hex.choose_spec]
theorem Ways.heights_none {W : Ways} (h : W.bad) : W.heights = none := by
  unfold Ways.heights
  rw [dif_neg]
  rintro ⟨hs, g⟩
  exact g.good h
end Go.Proofs.YtaebmliolpgmdaaGreat
set_option linter.unusedSimpArgs false
set_option linter.unusedVariables false
namespace Go.Proofs.YtaebmliolpgmdaaGreat

def c0 : CodeM := ⟨0, 0, [], [], []⟩
/-- what an instruction names is there -/
def namedP (nf vars sites : Int) (t : P2) : Bool :=
  if t.o = 2 ∨ t.o = 3 then decide (t.n < vars) else if t.o = 12 ∨ t.o = 17 then decide (t.n < sites) else if t.o = 7 then decide (t.n < nf) else true
theorem named_var {nf vars sites o n : Int} (h : o = 2 ∨ o = 3) : namedP nf vars sites ⟨o, n⟩ = decide (n < vars) := by unfold namedP; dsimp only; rw [if_pos h]
theorem named_site {nf vars sites o n : Int} (h : o = 12 ∨ o = 17) : namedP nf vars sites ⟨o, n⟩ = decide (n < sites) := by unfold namedP; dsimp only; rw [if_neg (by omega), if_pos h]
theorem named_call {nf vars sites n : Int} : namedP nf vars sites ⟨7, n⟩ = decide (n < nf) := rfl
theorem named_other {nf vars sites o n : Int} (h1 : ¬ (o = 2 ∨ o = 3)) (h2 : ¬ (o = 12 ∨ o = 17)) (h3 : o ≠ 7) : namedP nf vars sites ⟨o, n⟩ = true := by unfold namedP; dsimp only; rw [if_neg h1, if_neg h2, if_neg h3]
def namedI (nf : Int) (c : CodeM) (t : P2) : Bool := namedP nf c.qVars c.qSites.length t
def siteI (l : List CodeM) (n : Int) : Bool := inB n 0 (l.length - 1) && decide ((l.getD n.toNat c0).qParams = 0)
/-- from place a on, each instruction goes on within -/
def goesL (N : Int) : Nat → List P2 → Bool
  | _, [] => true
  | a, t :: l => (nextI t a).all (fun n => inB n 0 (N - 1)) && goesL N (a + 1) l
theorem goesL_step {N : Int} {l : List P2} {k : Nat} (h : k < l.length) : goesL N k (l.drop k) = ((nextI l[k] k).all (fun n => inB n 0 (N - 1)) && goesL N (k + 1) (l.drop (k + 1))) := by
  rw [List.drop_eq_getElem_cons h]; rfl
theorem goesL_all {N : Int} : ∀ (l : List P2) (a : Nat), goesL N a l = true → ∀ k (h : k < l.length), ∀ n ∈ nextI l[k] ((a + k : Nat) : Int), 0 ≤ n ∧ n ≤ N - 1 := by
  intro l
  induction l with
  | nil => intro a _ k h; simp at h
  | cons t l ih =>
    intro a h k hk n hn
    simp only [goesL, Bool.and_eq_true, List.all_eq_true] at h
    cases k with
    | zero => exact inB_iff.1 (h.1 n (by simpa using hn))
    | succ k =>
      have hk' : k < l.length := by simpa using hk
      refine ih (a + 1) h.2 k hk' n ?_
      rw [show a + 1 + k = a + (k + 1) by omega]
      simpa using hn
def outH (l : List CodeM) (t : P2) (v : Int) : Option Int := if v < takes l t ∨ 40 < v - takes l t + puts t then none else some (v - takes l t + puts t)
theorem puts_bd (t : P2) : 0 ≤ puts t ∧ puts t ≤ 1 := by unfold puts; split <;> omega
theorem outH_pos {l : List CodeM} {t : P2} {v u : Int} (h : outH l t v = some u) : 0 ≤ u ∧ u ≤ 40 := by
  unfold outH at h
  split at h
  · cases h
  · next g => injection h with h; have := puts_bd t; omega
theorem outH_none {l : List CodeM} {t : P2} {v : Int} (h : v < takes l t ∨ 40 < v - takes l t + puts t) : outH l t v = none := by unfold outH; rw [if_pos h]
theorem outH_some {l : List CodeM} {t : P2} {v : Int} (h1 : takes l t ≤ v) (h2 : v - takes l t + puts t ≤ 40) : outH l t v = some (v - takes l t + puts t) := by unfold outH; rw [if_neg (by omega)]
/-- the ways of a code -/
def waysOf (l : List CodeM) (c : CodeM) : Ways where
  N := c.qIns.length
  R := 0 :: c.qRows.map fun r => r.p.toNat
  nx := fun a => (nextI (c.qIns.getD a ⟨18, 0⟩) a).map Int.toNat
  out := fun a v => outH l (c.qIns.getD a ⟨18, 0⟩) v
  pos := fun _ _ _ h => outH_pos h
theorem ways_nx {l : List CodeM} {c : CodeM} {a : Nat} (h : a < c.qIns.length) : (waysOf l c).nx a = (nextI c.qIns[a] a).map Int.toNat := by
  show (nextI (c.qIns.getD a ⟨18, 0⟩) a).map Int.toNat = _
  simp [List.getD, List.getElem?_eq_getElem h]
theorem ways_out {l : List CodeM} {c : CodeM} {a : Nat} (h : a < c.qIns.length) (v : Int) : (waysOf l c).out a v = outH l c.qIns[a] v := by
  show outH l (c.qIns.getD a ⟨18, 0⟩) v = _
  simp [List.getD, List.getElem?_eq_getElem h]
/-- it may raise something -/
def raiseB (o : Int) : Bool := decide (o = 4 ∨ o = 7 ∨ o = 13 ∨ o = 14 ∨ o = 16 ∨ o = 17)
def flatB (o : Int) : Bool := decide (o = 18 ∨ o = 16 ∨ o = 14 ∨ o = 17)
def padLow (rows : List R3) (a : Int) : Bool := decide (rowIx a rows 0 < 0) || decide ((rows.getD (rowIx a rows 0).toNat ⟨0, 0, 0⟩).p ≤ a)
def bad6 (rows : List R3) (a v : Int) (t : P2) : Bool := decide (0 ≤ v) && (raiseB t.o && padLow rows a)
def bad7 (v : Int) (t : P2) : Bool := flatB t.o && decide (0 < v)
/-- some place from a on is bad -/
def anyAt (p : Nat → Int → P2 → Bool) : Nat → List Int → List P2 → Bool
  | a, v :: hs, t :: l => p a v t || anyAt p (a + 1) hs l
  | _, _, _ => false
theorem anyAt_step {p : Nat → Int → P2 → Bool} {hs : List Int} {l : List P2} {k : Nat} (h1 : k < hs.length) (h2 : k < l.length) : anyAt p k (hs.drop k) (l.drop k) = (p k hs[k] l[k] || anyAt p (k + 1) (hs.drop (k + 1)) (l.drop (k + 1))) := by
  rw [List.drop_eq_getElem_cons h1, List.drop_eq_getElem_cons h2]; rfl
theorem anyAt_end {p : Nat → Int → P2 → Bool} {hs : List Int} {l : List P2} (h : hs.length = l.length) : anyAt p l.length (hs.drop l.length) (l.drop l.length) = false := by
  rw [List.drop_length, ← h, List.drop_length]; rfl
def codeH (c : CodeM) (hs : List Int) : Int := if anyAt (fun a v t => bad6 c.qRows a v t) 0 hs c.qIns = true then 6 else if anyAt (fun _ v t => bad7 v t) 0 hs c.qIns = true then 7 else 0
/-- what is wrong with a code; 0: nothing -/
noncomputable def codeN (l : List CodeM) (c : CodeM) : Int :=
  if c.qIns.all (namedI l.length c) = false then 1 else if c.qSites.all (siteI l) = false then 2 else if goesL c.qIns.length 0 c.qIns = false then 3 else if rowsOk c.qIns.length 0 c.qRows = false then 4
  else match (waysOf l c).heights with
    | none => 5
    | some hs => codeH c hs

def natI (l : List Nat) : List Int := l.map fun (n : Nat) => (n : Int)
theorem natI_length (l : List Nat) : (natI l).length = l.length := by simp [natI]
theorem natI_append (a b : List Nat) : natI (a ++ b) = natI a ++ natI b := by simp [natI]
theorem natI_get {l : List Nat} {k : Nat} (h : k < l.length) : (natI l)[k]'(by rw [natI_length]; exact h) = (l[k] : Int) := by simp [natI]
/-- what the walk of the heights wants of a code -/
structure Fit (l : List CodeM) (c : CodeM) : Prop where
  n1 : 1 ≤ c.qIns.length
  n3 : c.qIns.length ≤ 300
  ins : ∀ k (h : k < c.qIns.length), insOk c.qIns[k] = true
  tk : ∀ k (h : k < c.qIns.length), c.qIns[k].o = 7 → 0 ≤ c.qIns[k].n ∧ c.qIns[k].n < l.length
  tb : ∀ k (h : k < c.qIns.length), 0 ≤ takes l c.qIns[k] ∧ takes l c.qIns[k] ≤ 2
  nx : ∀ k (h : k < c.qIns.length), ∀ n ∈ nextI c.qIns[k] k, 0 ≤ n ∧ n ≤ (c.qIns.length : Int) - 1
  pad : ∀ k (h : k < c.qRows.length), 0 ≤ c.qRows[k].p ∧ c.qRows[k].p ≤ (c.qIns.length : Int) - 1
  rl : c.qRows.length ≤ 300
theorem set_same {hs : List Int} {p : Nat} (h : lab hs p = 0) (hp : p < hs.length) : hs.set p 0 = hs := by
  rw [lab_in hp] at h
  rw [← h]; exact List.set_getElem_self hp
/-- the first places, so many of them done -/
def St0 (N : Nat) (RK : List Nat) (hs : List Int) (op : List Nat) : Prop :=
  hs.length = N ∧ (∀ a, lab hs a = if a ∈ RK then 0 else -1) ∧ (∀ a ∈ op, a ∈ RK) ∧ (∀ a ∈ RK, a ∈ op) ∧ op.length + openN hs = N ∧ ∀ a ∈ RK, a < N
theorem openN_rep (N : Nat) : openN (List.replicate N (-1)) = N := by
  induction N with
  | zero => rfl
  | succ n ih => rw [List.replicate_succ]; simp only [openN, List.countP_cons] at ih ⊢; simp; omega
theorem St0.init {N : Nat} (h : 1 ≤ N) : St0 N [0] ((List.replicate N (-1)).set 0 0) [0] := by
  have hl : 0 < (List.replicate N (-1 : Int)).length := by simp; omega
  have hlab : ∀ a, lab (List.replicate N (-1)) a = -1 := fun a => by
    by_cases h : a < (List.replicate N (-1 : Int)).length
    · rw [lab_in h]; simp
    · exact lab_out h
  refine ⟨by simp, fun a => ?_, fun a h => h, fun a h => h, ?_, fun a ha => by simp at ha; omega⟩
  · rw [lab_set hl, hlab]; simp
  · have := openN_set (List.replicate N (-1)) 0 0 hl (hlab 0) (by omega)
    rw [openN_rep] at this
    simp; omega
theorem St0.old {N : Nat} {RK RK' : List Nat} {hs : List Int} {op : List Nat} {p : Nat} (h : St0 N RK hs op) (hm : ∀ a, a ∈ RK' ↔ a ∈ RK ∨ a = p) (hl : 0 ≤ lab hs p) : St0 N RK' hs op ∧ lab hs p = 0 := by
  obtain ⟨h1, h2, h3, h4, h5, h6⟩ := h
  have hp : p ∈ RK := by
    by_cases e : p ∈ RK
    · exact e
    · rw [h2 p, if_neg e] at hl; omega
  have hm' : ∀ a, a ∈ RK' ↔ a ∈ RK := fun a => by
    rw [hm]; exact ⟨fun h => h.elim id (fun e => e ▸ hp), .inl⟩
  refine ⟨⟨h1, fun a => ?_, fun a ha => (hm' a).2 (h3 a ha), fun a ha => h4 a ((hm' a).1 ha), h5, fun a ha => h6 a ((hm' a).1 ha)⟩, by rw [h2 p, if_pos hp]⟩
  rw [h2 a]
  by_cases e : a ∈ RK
  · rw [if_pos e, if_pos ((hm' a).2 e)]
  · rw [if_neg e, if_neg (fun x => e ((hm' a).1 x))]
theorem St0.new {N : Nat} {RK RK' : List Nat} {hs : List Int} {op : List Nat} {p : Nat} (h : St0 N RK hs op) (hm : ∀ a, a ∈ RK' ↔ a ∈ RK ∨ a = p) (hl : lab hs p < 0) (hp : p < N) : St0 N RK' (hs.set p 0) (op ++ [p]) := by
  obtain ⟨h1, h2, h3, h4, h5, h6⟩ := h
  have hpl : p < hs.length := by omega
  have hl1 : lab hs p = -1 := by
    have := h2 p
    split at this <;> omega
  refine ⟨by rw [List.length_set]; exact h1, fun a => ?_, fun a ha => ?_, fun a ha => ?_, ?_, fun a ha => ?_⟩
  · rw [lab_set hpl, h2 a]
    by_cases e : a = p
    · rw [if_pos e, if_pos ((hm a).2 (.inr e))]
    · rw [if_neg e]
      by_cases e2 : a ∈ RK
      · rw [if_pos e2, if_pos ((hm a).2 (.inl e2))]
      · rw [if_neg e2, if_neg (fun x => ((hm a).1 x).elim e2 e)]
  · rcases List.mem_append.1 ha with g | g
    · exact (hm a).2 (.inl (h3 a g))
    · exact (hm a).2 (.inr (by simpa using g))
  · rcases (hm a).1 ha with g | g
    · exact List.mem_append.2 (.inl (h4 a g))
    · exact List.mem_append.2 (.inr (by simpa using g))
  · have := openN_set hs p 0 hpl hl1 (by omega)
    rw [List.length_append]; simp; omega
  · rcases (hm a).1 ha with g | g
    · exact h6 a g
    · omega
theorem St0.inv {W : Ways} {hs : List Int} {op : List Nat} (h : St0 W.N W.R hs op) : HInv W hs op ∧ (∀ a ∈ op, 0 ≤ lab hs a) ∧ op.length + openN hs = W.N := by
  obtain ⟨h1, h2, h3, h4, h5, h6⟩ := h
  have hr : ∀ a, 0 ≤ lab hs a → a ∈ W.R := fun a ha => by
    rw [h2 a] at ha
    by_cases e : a ∈ W.R
    · exact e
    · rw [if_neg e] at ha; omega
  refine ⟨⟨h1, fun r hr => by rw [h2 r, if_pos hr], fun a ha => ?_, fun a => ?_, fun a ha => .inl (h4 a (hr a ha))⟩, fun a ha => by rw [h2 a, if_pos (h3 a ha)]; exact Int.le_refl _, h5⟩
  · have := hr a ha
    rw [h2 a, if_pos this]; exact W.root this
  · rw [h2 a]; split
    · right; omega
    · left; rfl
def rootsK (rows : List R3) (k : Nat) : List Nat := 0 :: (rows.take k).map fun r => r.p.toNat
theorem rootsK_zero (rows : List R3) : rootsK rows 0 = [0] := rfl
theorem rootsK_succ {rows : List R3} {k : Nat} (h : k < rows.length) (a : Nat) : a ∈ rootsK rows (k + 1) ↔ a ∈ rootsK rows k ∨ a = rows[k].p.toNat := by
  unfold rootsK
  rw [List.take_succ_eq_append_getElem h, List.map_append]
  simp only [List.mem_cons, List.mem_append, List.map_cons, List.map_nil, List.mem_singleton, List.not_mem_nil, or_false]
  exact ⟨fun h => by rcases h with h | h | h; exact .inl (.inl h); exact .inl (.inr h); exact .inr h, fun h => by rcases h with (h | h) | h; exact .inl h; exact .inr (.inl h); exact .inr (.inr h)⟩
theorem rootsK_all {l : List CodeM} {c : CodeM} : rootsK c.qRows c.qRows.length = (waysOf l c).R := by
  unfold rootsK; rw [List.take_length]; rfl
/-- from place a so many ways are done: the places there have height u -/
def StN (W : Ways) (a : Nat) (v u : Int) (hs : List Int) (op : List Nat) (L : List Int) (q : Nat) : Prop :=
  HInv W hs (a :: op) ∧ lab hs a = v ∧ (∀ b ∈ op, 0 ≤ lab hs b) ∧ (∀ n ∈ L.take q, lab hs n.toNat = u)
theorem next_nil {t : P2} {a : Int} (h : nextI t a = []) : puts t = 0 := by
  unfold nextI at h
  split at h
  · cases h
  split at h
  · simp only [putL] at h
    split at h
    · cases h
    · split at h <;> cases h
  split at h
  · next g => unfold puts; rw [if_neg (by omega)]
  · cases h
theorem StN.skip {W : Ways} {a : Nat} {v u : Int} {hs : List Int} {op : List Nat} {L : List Int} {q : Nat} (h : StN W a v u hs op L q) (hq : q < L.length) (he : lab hs L[q].toNat = u) : StN W a v u hs op L (q + 1) := by
  obtain ⟨h1, h2, h3, h4⟩ := h
  refine ⟨h1, h2, h3, fun n hn => ?_⟩
  rw [List.take_succ_eq_append_getElem hq] at hn
  rcases List.mem_append.1 hn with g | g
  · exact h4 n g
  · rw [List.mem_singleton] at g; rw [g]; exact he
theorem StN.set {W : Ways} {a : Nat} {v u : Int} {hs : List Int} {op : List Nat} {L : List Int} {q : Nat} (h : StN W a v u hs op L q) (hq : q < L.length) (hv : 0 ≤ v) (ho : W.out a v = some u) (hn : L[q].toNat ∈ W.nx a) (hN : L[q].toNat < W.N) (hl : lab hs L[q].toNat < 0) :
    StN W a v u (hs.set L[q].toNat u) (op ++ [L[q].toNat]) L (q + 1) ∧ openN (hs.set L[q].toNat u) + 1 = openN hs := by
  obtain ⟨h1, h2, h3, h4⟩ := h
  have hpos := (W.pos _ _ _ ho).1
  have hl1 : lab hs L[q].toNat = -1 := by rcases h1.2.2.2.1 L[q].toNat with e | e; exact e; omega
  have hpl : L[q].toNat < hs.length := by rw [h1.1]; exact hN
  have hne : ∀ b, 0 ≤ lab hs b → b ≠ L[q].toNat := fun b hb e => by rw [e] at hb; omega
  refine ⟨⟨?_, ?_, fun b hb => ?_, fun n hn' => ?_⟩, openN_set _ _ _ hpl hl1 (by omega)⟩
  · refine (h1.put (a := a) (by rw [h2]; exact hv) (by rw [h2]; exact ho) hn hN hl1).mono (fun b hb => ?_)
    simp only [List.mem_cons, List.mem_append, List.not_mem_nil, or_false] at hb ⊢
    rcases hb with e | e | e
    · exact .inr (.inr e)
    · exact .inl e
    · exact .inr (.inl e)
  · rw [lab_set hpl, if_neg (hne a (by rw [h2]; exact hv))]; exact h2
  · rw [lab_set hpl]
    split
    · exact hpos
    · next e =>
      rcases List.mem_append.1 hb with g | g
      · exact h3 b g
      · exact absurd (by simpa using g) e
  · rw [List.take_succ_eq_append_getElem hq] at hn'
    rw [lab_set hpl]
    split
    · rfl
    · next e =>
      rcases List.mem_append.1 hn' with g | g
      · exact h4 n g
      · rw [List.mem_singleton] at g; rw [g] at e; exact absurd rfl e
theorem StN.done {W : Ways} {a : Nat} {v u : Int} {hs : List Int} {op : List Nat} {L : List Int} (h : StN W a v u hs op L L.length) (ho : W.out a v = some u) (hL : W.nx a = L.map Int.toNat) : HInv W hs op := by
  obtain ⟨h1, h2, h3, h4⟩ := h
  refine h1.close (by rw [h2]; exact ho) (fun n hn => ?_)
  rw [hL] at hn
  obtain ⟨m, hm, rfl⟩ := List.mem_map.1 hn
  exact h4 m (by rw [List.take_length]; exact hm)
theorem StN.clash {W : Ways} {a : Nat} {v u : Int} {hs : List Int} {op : List Nat} {L : List Int} {q : Nat} (h : StN W a v u hs op L q) (hv : 0 ≤ v) (ho : W.out a v = some u) {n : Nat} (hn : n ∈ W.nx a) (hl : 0 ≤ lab hs n) (hne : lab hs n ≠ u) : W.bad := by
  obtain ⟨h1, h2, _, _⟩ := h
  exact h1.fail2 (a := a) (by rw [h2]; exact hv) (by rw [h2]; exact ho) hn hl hne
/-- what the walk hands back -/
def HtR (W : Ways) (b : Bool) (hs : List Int) : Prop := (b = true ∧ HInv W hs []) ∨ (b = false ∧ W.bad ∧ hs = [])
end Go.Proofs.YtaebmliolpgmdaaGreat
