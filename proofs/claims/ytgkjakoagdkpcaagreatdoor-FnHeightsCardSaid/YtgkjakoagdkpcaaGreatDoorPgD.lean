
/- Drawn functions in plain Lean: blocks one behind the other. No condition. -/
import Derived.Test.YtgkjakoagdkpcaaGreatDoorPg9P
import Derived.Test.YtgkjakoagdkpcaaGreatDoorExgP
set_option linter.unusedSimpArgs false
set_option linter.unusedVariables false
namespace Go.Proofs.YtgkjakoagdkpcaaGreatDoor

/-- the statements from a on, below b, stand in this block and in those within, in order -/
inductive Seg (K : Nat → StmtM) : Nat → Nat → List Int → Prop
  | nil (a : Nat) : Seg K a a []
  | cons {a m p q : Nat} {bs : List Int} : Seg K (a + 1) m (K a).qThen → Seg K m p (K a).qElse → Seg K p q bs → ((K a).qKind = 8 → ∀ j, a < j → j < m → (K j).qKind ≠ 3) → Seg K a q ((a : Int) :: bs)
theorem Seg.le {K : Nat → StmtM} {a b : Nat} {l : List Int} (h : Seg K a b l) : a ≤ b := by
  induction h with
  | nil => exact Nat.le_refl _
  | cons _ _ _ _ i1 i2 i3 => omega
theorem Seg.congr {K K' : Nat → StmtM} {a b : Nat} {l : List Int} (h : Seg K a b l) : (∀ j, a ≤ j → j < b → K j = K' j) → Seg K' a b l := by
  induction h with
  | nil => intro _; exact .nil _
  | @cons a m p q bs h1 h2 h3 h4 i1 i2 i3 =>
    intro e
    have l1 := h1.le; have l2 := h2.le; have l3 := h3.le
    have ea := e a (Nat.le_refl _) (by omega)
    refine .cons (m := m) (p := p) ?_ ?_ (i3 fun j u v => e j (by omega) (by omega)) ?_
    · rw [← ea]; exact i1 fun j u v => e j (by omega) (by omega)
    · rw [← ea]; exact i2 fun j u v => e j (by omega) (by omega)
    · rw [← ea]; intro h8 j u v; rw [← e j (by omega) (by omega)]; exact h4 h8 j u v
theorem Seg.app {K : Nat → StmtM} {a b c : Nat} {l l' : List Int} (h : Seg K a b l) : Seg K b c l' → Seg K a c (l ++ l') := by
  induction h with
  | nil => intro k; exact k
  | cons h1 h2 h3 h4 _ _ i3 => intro k; exact .cons h1 h2 (i3 k) h4
theorem Seg.mem {K : Nat → StmtM} {a b : Nat} {l : List Int} (h : Seg K a b l) : ∀ x ∈ l, (a : Int) ≤ x ∧ x ≤ (b : Int) - 1 := by
  induction h with
  | nil => intro x hx; simp at hx
  | @cons a m p q bs h1 h2 h3 h4 i1 i2 i3 =>
    have l1 := h1.le; have l2 := h2.le; have l3 := h3.le
    intro x hx
    rcases List.mem_cons.1 hx with rfl | hx
    · omega
    · have := i3 x hx; omega
theorem Seg.at_ {K : Nat → StmtM} {a b : Nat} {l : List Int} (h : Seg K a b l) : ∀ j, a ≤ j → j < b → ∃ m p, p ≤ b ∧ Seg K (j + 1) m (K j).qThen ∧ Seg K m p (K j).qElse ∧ ((K j).qKind = 8 → ∀ i, j < i → i < m → (K i).qKind ≠ 3) := by
  induction h with
  | nil => intro j h1 h2; omega
  | @cons a m p q bs h1 h2 h3 h4 i1 i2 i3 =>
    have l1 := h1.le; have l2 := h2.le; have l3 := h3.le
    intro j u v
    by_cases e : j = a
    · subst e; exact ⟨m, p, by omega, h1, h2, h4⟩
    by_cases e1 : j < m
    · obtain ⟨m', p', g, r⟩ := i1 j (by omega) e1; exact ⟨m', p', by omega, r⟩
    by_cases e2 : j < p
    · obtain ⟨m', p', g, r⟩ := i2 j (by omega) e2; exact ⟨m', p', by omega, r⟩
    · obtain ⟨m', p', g, r⟩ := i3 j (by omega) v; exact ⟨m', p', by omega, r⟩
/-- the list as a function -/
def atS (L : List StmtM) (k : Nat) : StmtM := L.getD k st0
theorem atS_lt {L : List StmtM} {k : Nat} (h : k < L.length) : atS L k = L[k] := by simp [atS, List.getD, List.getElem?_eq_getElem h]
theorem atS_app {L T : List StmtM} {k : Nat} (h : k < L.length) : atS (L ++ T) k = atS L k := by
  rw [atS_lt h, atS_lt (by simp; omega), List.getElem_append_left h]
theorem atS_set {L : List StmtM} {s : StmtM} {k j : Nat} (h : k ≠ j) : atS (L.set k s) j = atS L j := by simp [atS, List.getD, List.getElem?_set_ne h]
theorem atS_same {L : List StmtM} {s : StmtM} {k : Nat} (h : k < L.length) : atS (L.set k s) k = s := by simp [atS, List.getD, h]
theorem natL_cast (a : Nat) (bs : List Int) : natL ((a : Int) :: bs) = a :: natL bs := rfl
theorem Seg.ord {L : List StmtM} {a b : Nat} {l : List Int} (h : Seg (atS L) a b l) : b ≤ L.length → ∀ d, b - a ≤ d → ordN (kidsOf L) d (natL l) = List.range' a (b - a) := by
  induction h with
  | nil a => intro _ d _; rw [Nat.sub_self]; exact ord_nil _ _
  | @cons a m p q bs h1 h2 h3 h4 i1 i2 i3 =>
    have l1 := h1.le; have l2 := h2.le; have l3 := h3.le
    intro hq d hd
    obtain ⟨d, rfl⟩ : ∃ e, d = e + 1 := ⟨d - 1, by omega⟩
    rw [natL_cast, ord_cons, kid_of (show a < L.length by omega)]
    have ea := atS_lt (show a < L.length by omega)
    have j1 := i1 (by omega) d (by omega)
    have j2 := i2 (by omega) d (by omega)
    have j3 := i3 hq (d + 1) (by omega)
    rw [ea] at j1 j2
    simp only
    rw [j1, j2, j3]
    have r1 : List.range' (a + 1) (m - (a + 1)) ++ List.range' m (p - m) = List.range' (a + 1) (p - (a + 1)) := by
      have := List.range'_append (s := a + 1) (m := m - (a + 1)) (n := p - m) (step := 1)
      rw [show a + 1 + 1 * (m - (a + 1)) = m by omega, show m - (a + 1) + (p - m) = p - (a + 1) by omega] at this
      exact this
    have r2 : List.range' (a + 1) (p - (a + 1)) ++ List.range' p (q - p) = List.range' (a + 1) (q - (a + 1)) := by
      have := List.range'_append (s := a + 1) (m := p - (a + 1)) (n := q - p) (step := 1)
      rw [show a + 1 + 1 * (p - (a + 1)) = p by omega, show p - (a + 1) + (q - p) = q - (a + 1) by omega] at this
      exact this
    rw [r1, List.cons_append, r2, show q - a = (q - (a + 1)) + 1 by omega, List.range'_succ]
theorem Seg.uses {L : List StmtM} {a b : Nat} {l : List Int} (h : Seg (atS L) a b l) : b ≤ L.length → l.length + usesL (L.drop a) = (b - a) + usesL (L.drop b) := by
  induction h with
  | nil a => intro _; simp
  | @cons a m p q bs h1 h2 h3 h4 i1 i2 i3 =>
    have l1 := h1.le; have l2 := h2.le; have l3 := h3.le
    intro hq
    have ea := atS_lt (show a < L.length by omega)
    have j1 := i1 (by omega); have j2 := i2 (by omega); have j3 := i3 hq
    rw [ea] at j1 j2
    rw [usesL_step (show a < L.length by omega), List.length_cons]
    omega
theorem seg_shaped {f : FuncM} (h1 : inB f.qParams 0 2 = true) (h2 : inB f.qVars f.qParams 6 = true) (h3 : f.qStmts.length ≤ 16) (h4 : (sitesF 0 f.qStmts).length ≤ 4) (hs : Seg (atS f.qStmts) 0 f.qStmts.length f.qBody) : shapedB f = true := by
  have hr : ∀ {b : List Int} {x y : Nat}, Seg (atS f.qStmts) x y b → y ≤ f.qStmts.length → ordI f.qStmts b = intL (List.range' x (y - x)) := fun h hy => by unfold ordI; rw [h.ord hy _ (by omega)]
  unfold shapedB
  rw [h1, h2, decide_eq_true h3, decide_eq_true h4]
  simp only [Bool.true_and, Bool.and_eq_true, decide_eq_true_eq]
  refine ⟨(latB_all _ _).2 fun j hj => ?_, ?_, inAll_iff.2 fun n hn => ?_, ?_, List.all_eq_true.2 fun s hm => ?_⟩
  · obtain ⟨m, p, hp, g1, g2, _⟩ := hs.at_ j (Nat.zero_le _) hj
    have e := atS_lt hj
    rw [e] at g1 g2
    have k1 := g1.le; have k2 := g2.le
    refine ⟨inAll_iff.2 fun n hn => ?_, inAll_iff.2 fun n hn => ?_⟩
    · have := g1.mem n hn; omega
    · have := g2.mem n hn; omega
  · have := hs.uses (Nat.le_refl _)
    simp [usesL] at this; exact this
  · have := hs.mem n hn; omega
  · rw [hr hs (Nat.le_refl _), List.range_eq_range', Nat.sub_zero]
  · obtain ⟨j, hj, rfl⟩ := List.mem_iff_getElem.1 hm
    obtain ⟨m, p, hp, g1, g2, g3⟩ := hs.at_ j (Nat.zero_le _) hj
    have e := atS_lt hj
    rw [e] at g1 g2 g3
    unfold whOk
    split
    · next h8 =>
      rw [hr g1 (by have := g2.le; omega), List.all_eq_true]
      intro x hx
      obtain ⟨y, hy, rfl⟩ := List.mem_map.1 hx
      rw [List.mem_range'_1] at hy
      have := g3 h8 y (by omega) (by omega)
      exact decide_eq_true this
    · rfl
theorem seg_func {f : FuncM} {params : List Int} (h1 : inB f.qParams 0 2 = true) (h2 : inB f.qVars f.qParams 6 = true) (h3 : f.qStmts.length ≤ 16) (h4 : (sitesF 0 f.qStmts).length ≤ 4) (hs : Seg (atS f.qStmts) 0 f.qStmts.length f.qBody) (h5 : ∀ s ∈ f.qStmts, stmtOk f.qVars params s = true) : funcB f params = true := by
  rw [func_eq, seg_shaped h1 h2 h3 h4 hs, Bool.true_and, List.all_eq_true]; exact h5
end Go.Proofs.YtgkjakoagdkpcaaGreatDoor
set_option linter.unusedSimpArgs false
set_option linter.unusedVariables false
namespace Go.Proofs.YtgkjakoagdkpcaaGreatDoor

theorem puts_good {vars : Int} {params : List Int} {l : List P2} (hv : 0 ≤ vars ∧ vars ≤ 6) (hp : parOk params = true) (h : Puts vars params 1 l) (hl : l.length ≤ 12) : goodExpr l vars params = true := by
  obtain ⟨m, e⟩ := h 0 0 (Int.le_refl 0)
  have := highOf_pos hp e hl (by omega)
  unfold goodExpr
  rw [decide_eq_true hv, hp, decide_eq_true (by omega : 0 < highOf vars params l)]; rfl
/-- a statement as it is drawn -/
structure StG (V : Int) (params : List Int) (s : StmtM) : Prop where
  ok : stmtOk V params s = true
  z : s.qKind = 3 → params.getD s.qN.toNat 0 = 0
  ex : s.qEx.length ≤ 15
  th : s.qThen.length ≤ 3
  el : s.qElse.length ≤ 3
theorem stG_set {V : Int} {params : List Int} {n : Int} {l : List P2} (he : goodExpr l V params = true) (hl : l.length ≤ 15) (h1 : 0 ≤ n) (h2 : n < V) : StG V params ⟨1, n, l, [], []⟩ :=
  ⟨by unfold stmtOk; rw [if_pos rfl, he, inB_iff.2 (⟨h1, by omega⟩ : (0 : Int) ≤ n ∧ n ≤ V - 1)]; rfl, fun h => by simp at h, hl, by simp, by simp⟩
theorem stG_plain {V : Int} {params : List Int} {k : Int} {l : List P2} (he : goodExpr l V params = true) (hl : l.length ≤ 15) (hk : k = 2 ∨ k = 4 ∨ k = 5 ∨ k = 9) : StG V params ⟨k, 0, l, [], []⟩ :=
  ⟨by unfold stmtOk; rw [if_neg (show ¬ k = 1 by omega), if_pos hk, he]; rfl, fun h => by simp at h; omega, hl, by simp, by simp⟩
theorem stG_defer {V : Int} {params : List Int} {n : Nat} (hn : n < params.length) (hz : params[n] = 0) : StG V params ⟨3, n, [], [], []⟩ :=
  ⟨by unfold stmtOk; rw [if_neg (show ¬ (3 : Int) = 1 by omega), if_neg (show ¬ ((3 : Int) = 2 ∨ (3 : Int) = 4 ∨ (3 : Int) = 5 ∨ (3 : Int) = 9) by omega), if_pos rfl]
      rw [inB_iff.2 (show (0 : Int) ≤ (n : Int) ∧ (n : Int) ≤ (params.length : Int) - 1 by omega)]; rfl, fun _ => by simp [List.getD, List.getElem?_eq_getElem hn, hz], by simp, by simp, by simp⟩
theorem stG_exit {V : Int} {params : List Int} : StG V params ⟨6, 0, [], [], []⟩ := ⟨rfl, fun h => by simp at h, by simp, by simp, by simp⟩
theorem stG_if {V : Int} {params : List Int} {l : List P2} {b1 b2 : List Int} (he : goodExpr l V params = true) (hl : l.length ≤ 15) (h1 : b1.length ≤ 3) (h2 : b2.length ≤ 3) : StG V params ⟨7, 0, l, b1, b2⟩ :=
  ⟨by unfold stmtOk; rw [if_neg (show ¬ (7 : Int) = 1 by omega), if_neg (show ¬ ((7 : Int) = 2 ∨ (7 : Int) = 4 ∨ (7 : Int) = 5 ∨ (7 : Int) = 9) by omega), if_neg (show ¬ (7 : Int) = 3 by omega), if_neg (show ¬ (7 : Int) = 6 by omega), if_pos rfl, he]; rfl, fun h => by simp at h, hl, h1, h2⟩
theorem stG_while {V : Int} {params : List Int} {l : List P2} {b1 : List Int} (he : goodExpr l V params = true) (hl : l.length ≤ 15) (h1 : b1.length ≤ 3) : StG V params ⟨8, 0, l, b1, []⟩ :=
  ⟨by unfold stmtOk; rw [if_neg (show ¬ (8 : Int) = 1 by omega), if_neg (show ¬ ((8 : Int) = 2 ∨ (8 : Int) = 4 ∨ (8 : Int) = 5 ∨ (8 : Int) = 9) by omega), if_neg (show ¬ (8 : Int) = 3 by omega), if_neg (show ¬ (8 : Int) = 6 by omega), if_neg (show ¬ (8 : Int) = 7 by omega), if_pos rfl, he]; rfl, fun h => by simp at h, hl, h1, by simp⟩
theorem sites_count : ∀ (L : List StmtM) (k : Nat), (sitesF k L).length = (L.map StmtM.qKind).count 3 := by
  intro L
  induction L with
  | nil => intro k; rfl
  | cons s L ih =>
    intro k
    simp only [sitesF, List.map_cons, List.count_cons]
    split
    · next h => rw [List.length_cons, ih, h]; simp
    · next h => rw [ih]; simp [h]
/-- the statements as they are drawn -/
structure OkL (V : Int) (params : List Int) (L : List StmtM) : Prop where
  len : L.length ≤ 12
  sites : (L.map StmtM.qKind).count 3 ≤ 4
  ok : ∀ s ∈ L, StG V params s
theorem OkL.nil {V : Int} {params : List Int} : OkL V params [] := ⟨by simp, by simp, by simp⟩
theorem OkL.push {V : Int} {params : List Int} {L : List StmtM} {s : StmtM} (h : OkL V params L) (hl : L.length < 12) (hs : StG V params s) (h3 : s.qKind = 3 → (L.map StmtM.qKind).count 3 ≠ 4) : OkL V params (L ++ [s]) := by
  refine ⟨by simp; omega, ?_, fun x hx => ?_⟩
  · rw [List.map_append, List.count_append]
    have := h.sites
    by_cases h4 : s.qKind = 3
    · have := h3 h4; simp [h4]; omega
    · simp [h4]; exact this
  · rcases List.mem_append.1 hx with hx | hx
    · exact h.ok x hx
    · rw [List.mem_singleton] at hx; subst hx; exact hs
theorem OkL.set {V : Int} {params : List Int} {L : List StmtM} {s : StmtM} {k : Nat} (h : OkL V params L) (hk : k < L.length) (hs : StG V params s) (he : s.qKind = (atS L k).qKind) : OkL V params (L.set k s) := by
  refine ⟨by simp; exact h.len, ?_, fun x hx => ?_⟩
  · have e : (L.set k s).map StmtM.qKind = L.map StmtM.qKind := by
      rw [List.map_set, he, atS_lt hk]
      apply List.ext_getElem (by simp)
      intro i h1 h2
      rw [List.getElem_set]
      split
      · next e => subst e; simp
      · rfl
    rw [e]; exact h.sites
  · rcases List.mem_or_eq_of_mem_set hx with hx | rfl
    · exact h.ok x hx
    · exact hs
/-- one statement more in a block that ends where the statements end -/
theorem Seg.snoc {L L4 : List StmtM} {n0 m : Nat} {acc : List Int} {s : StmtM} (h : Seg (atS L) n0 L.length acc) (h4 : L.length < L4.length) (hp : ∀ j, j < L.length → atS L4 j = atS L j) (h1 : Seg (atS L4) (L.length + 1) m s.qThen) (h2 : Seg (atS L4) m L4.length s.qElse)
    (h8 : s.qKind = 8 → ∀ j, L.length < j → j < m → (atS L4 j).qKind ≠ 3) : Seg (atS (L4.set L.length s)) n0 L4.length (acc ++ [(L.length : Int)]) := by
  have l1 := h1.le; have l2 := h2.le; have l0 := h.le
  refine (h.congr fun j _ hj => ?_).app (.cons (m := m) (p := L4.length) ?_ ?_ (.nil _) ?_)
  · rw [atS_set (by omega), hp j hj]
  · rw [atS_same h4]; exact h1.congr fun j hj _ => by rw [atS_set (by omega)]
  · rw [atS_same h4]; exact h2.congr fun j hj _ => by rw [atS_set (by omega)]
  · rw [atS_same h4]; intro e j u v; rw [atS_set (by omega)]; exact h8 e j u v
theorem funcG {f : FuncM} {params : List Int} (hp : parOk params = true) (h1 : inB f.qParams 0 2 = true) (h2 : inB f.qVars f.qParams 6 = true) (h : OkL f.qVars params f.qStmts) (hs : Seg (atS f.qStmts) 0 f.qStmts.length f.qBody) : (funcB f params && (sitesF 0 f.qStmts).all (siteZ params f)) = true := by
  rw [seg_func h1 h2 (by have := h.len; omega) (by rw [sites_count]; exact h.sites) hs fun s hm => (h.ok s hm).ok, Bool.true_and, List.all_eq_true]
  intro x hx
  obtain ⟨j, hj, rfl, h3⟩ := (sitesF_mem _ _ _).1 hx
  unfold siteZ
  rw [show (((0 + j : Nat) : Int)).toNat = j by omega]
  simp only [List.getD, List.getElem?_eq_getElem hj, Option.getD_some]
  exact decide_eq_true ((h.ok _ (List.getElem_mem hj)).z h3)
end Go.Proofs.YtgkjakoagdkpcaaGreatDoor
