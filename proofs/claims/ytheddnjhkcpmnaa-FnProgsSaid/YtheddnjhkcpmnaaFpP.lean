
/- Programs, plain: a function of a good program is good by itself. No condition. -/
import Derived.Test.YtheddnjhkcpmnaaPg13P
import Derived.Test.YtheddnjhkcpmnaaPg9
set_option linter.unusedSimpArgs false
set_option linter.unusedVariables false
set_option maxRecDepth 100000
namespace Go.Proofs.Ytheddnjhkcpmnaa
open Go.RowKit

theorem inB_more {n lo hi hi' : Int} (h : inB n lo hi = true) (hh : hi ≤ hi') : inB n lo hi' = true := by rw [inB_iff] at *; omega
theorem tokOk_more {vars a b : Int} {t : P2} (h : tokOk vars a t = true) (hab : a ≤ b) : tokOk vars b t = true := by
  unfold tokOk at *
  split
  · next h1 => rw [if_pos h1] at h; exact h
  · next h1 =>
    rw [if_neg h1] at h
    split
    · next h2 => rw [if_pos h2] at h; exact h
    · next h2 =>
      rw [if_neg h2] at h
      split
      · next h3 => rw [if_pos h3] at h; exact inB_more h (by omega)
      · next h3 => rw [if_neg h3] at h; exact h
theorem need_more {vars : Int} {params zs : List Int} {t : P2} (h : tokOk vars params.length t = true) : need (params ++ zs) t = need params t := by
  unfold need
  split
  · next h1 =>
    have : inB t.n 0 (params.length - 1) = true := by
      unfold tokOk at h
      rw [if_neg (by omega), if_neg (by omega), if_pos h1] at h; exact h
    rw [inB_iff] at this
    have hk : t.n.toNat < params.length := by omega
    simp only [List.getD]
    rw [List.getElem?_append_left hk]
  · rfl
theorem runE_more {vars : Int} {params zs : List Int} : ∀ (l : List P2) (c h : Int) (r : Int × Int), runE vars params l c h = some r → runE vars (params ++ zs) l c h = some r := by
  intro l
  induction l with
  | nil => intro c h r e; exact e
  | cons t l ih =>
    intro c h r e
    simp only [runE] at *
    by_cases h1 : tokOk vars params.length t = true ∧ need params t ≤ c
    · rw [if_pos h1] at e
      have hn := need_more (zs := zs) h1.1
      rw [if_pos ⟨tokOk_more h1.1 (by simp; omega), by rw [hn]; exact h1.2⟩, hn]
      exact ih _ _ _ e
    · rw [if_neg h1] at e; cases e
theorem highOf_more {vars : Int} {params zs : List Int} {e : List P2} (h : 0 < highOf vars params e) : highOf vars (params ++ zs) e = highOf vars params e := by
  unfold highOf at *
  split
  · next h1 =>
    rw [if_pos h1] at h
    rcases hr : runE vars params e 0 0 with _ | r
    · rw [hr] at h; simp at h
    · rw [runE_more _ _ _ _ hr]
  · rfl
theorem goodExpr_more {e : List P2} {vars : Int} {params zs : List Int} (h : goodExpr e vars params = true) (hp : parOk (params ++ zs) = true) : goodExpr e vars (params ++ zs) = true := by
  unfold goodExpr at *
  simp only [Bool.and_eq_true, decide_eq_true_eq] at *
  exact ⟨h.1, hp, by rw [highOf_more h.2.2]; exact h.2.2⟩
theorem stmtOk_more {vars : Int} {params zs : List Int} {s : StmtM} (h : stmtOk vars params s = true) (hp : parOk (params ++ zs) = true) : stmtOk vars (params ++ zs) s = true := by
  unfold stmtOk at *
  split
  · next h1 =>
    rw [if_pos h1] at h; simp only [Bool.and_eq_true] at *
    exact ⟨goodExpr_more h.1 hp, h.2⟩
  next h1 =>
  rw [if_neg h1] at h
  split
  · next h2 =>
    rw [if_pos h2] at h; simp only [Bool.and_eq_true] at *
    exact ⟨goodExpr_more h.1 hp, h.2⟩
  next h2 =>
  rw [if_neg h2] at h
  split
  · next h3 =>
    rw [if_pos h3] at h; simp only [Bool.and_eq_true] at *
    exact ⟨h.1, inB_more h.2.1 (by simp; omega), h.2.2⟩
  next h3 =>
  rw [if_neg h3] at h
  split
  · next h4 => rw [if_pos h4] at h; exact h
  next h4 =>
  rw [if_neg h4] at h
  split
  · next h5 =>
    rw [if_pos h5] at h; simp only [Bool.and_eq_true] at *
    exact ⟨goodExpr_more h.1 hp, h.2⟩
  next h5 =>
  rw [if_neg h5] at h
  split
  · next h6 =>
    rw [if_pos h6] at h; simp only [Bool.and_eq_true] at *
    exact ⟨goodExpr_more h.1 hp, h.2⟩
  · next h6 => rw [if_neg h6] at h; cases h
theorem funcB_more {f : FuncM} {params zs : List Int} (h : funcB f params = true) (hp : parOk (params ++ zs) = true) : funcB f (params ++ zs) = true := by
  unfold funcB at *
  simp only [Bool.and_eq_true, List.all_eq_true] at *
  exact ⟨h.1, h.2.1, fun s hs => ⟨stmtOk_more (h.2.2 s hs).1 hp, (h.2.2 s hs).2⟩⟩
theorem digs_of {l : List Int} (hl : l.length = 5) (hp : parOk l = true) : ∃ n, n < 243 ∧ digs n = l := by
  obtain ⟨_, h2⟩ := parOk_iff.1 hp
  match l, hl with
  | [a, b, c, d, e], _ =>
    have ha := h2 a (by simp); have hb := h2 b (by simp); have hc := h2 c (by simp); have hd := h2 d (by simp); have he := h2 e (by simp)
    refine ⟨a.toNat + 3 * b.toNat + 9 * c.toNat + 27 * d.toNat + 81 * e.toNat, by omega, ?_⟩
    unfold digs dig
    simp only [Nat.pow_zero, Nat.pow_one, Nat.div_one, show (3 : Nat) ^ 2 = 9 from rfl, show (3 : Nat) ^ 3 = 27 from rfl, show (3 : Nat) ^ 4 = 81 from rfl]
    congr 1
    · omega
    congr 1
    · omega
    congr 1
    · omega
    congr 1
    · omega
    congr 1
    omega
theorem parOk_fill {l : List Int} (h : parOk l = true) : parOk (l ++ List.replicate (5 - l.length) 0) = true := by
  obtain ⟨h1, h2⟩ := parOk_iff.1 h
  refine parOk_iff.2 ⟨by simp; omega, fun n hn => ?_⟩
  rcases List.mem_append.1 hn with hn | hn
  · exact h2 n hn
  · have := (List.mem_replicate.1 hn).2; omega
theorem alone_of {f : FuncM} {params : List Int} (h : funcB f params = true) (hp : parOk params = true) : aloneB f = true := by
  have h5 := (parOk_iff.1 hp).1
  obtain ⟨n, hn, e⟩ := digs_of (l := params ++ List.replicate (5 - params.length) 0) (by simp; omega) (parOk_fill hp)
  exact alone_yes hn (by rw [e]; exact funcB_more h (parOk_fill hp))
/-- what holds of a function that calls are asked of -/
theorem okF_fn {fs : List FuncM} {fn : Int} (h : okF fs fn = true) : ∃ n : Nat, ∃ hn : n < fs.length, fn = (n : Int) ∧ aloneB fs[n] = true ∧ ordR fs[n] = intL (List.range fs[n].qStmts.length) ∧ (sitR fs[n]).length ≤ 4 := by
  unfold okF at h
  rw [Bool.and_eq_true] at h
  obtain ⟨n, rfl, hn⟩ := fs_len h.2
  have hg := h.1
  unfold progS at hg
  simp only [Bool.and_eq_true, List.all_eq_true] at hg
  obtain ⟨_, hp, _, hf⟩ := hg
  have hF := (hf fs[n] (List.getElem_mem hn)).1
  have ha := alone_of hF hp
  refine ⟨n, hn, rfl, ha, ?_, ?_⟩
  · unfold ordR; rw [if_pos ha]; exact (shaped_ord (alone_sh ha)).2.2.2
  · unfold sitR; rw [if_pos ha]
    unfold funcB at hF
    simp only [Bool.and_eq_true, decide_eq_true_eq] at hF
    exact hF.1.2.2.2.2
end Go.Proofs.Ytheddnjhkcpmnaa
