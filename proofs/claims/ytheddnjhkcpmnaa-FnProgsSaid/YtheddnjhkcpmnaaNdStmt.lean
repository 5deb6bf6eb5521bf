
/- Stmt in memory: what toStmt, szStmt, eqStmt and their kin over slices do. No condition. -/
import Derived.Test.YtheddnjhkcpmnaaNst
import Derived.Test.YtheddnjhkcpmnaaNst2
import Derived.Test.YtheddnjhkcpmnaaTokM
import Derived.Test.YtheddnjhkcpmnaaSl6
import Derived.Handy
import Derived.Deep.Light
import Derived.Deep.QuietTactic
import Derived.BigQuiet
import Derived.StillTailTactics
import Derived.Deep.RegionWith
set_option linter.unusedSimpArgs false
set_option linter.unusedVariables false
set_option maxRecDepth 100000
namespace Go.Proofs.Ytheddnjhkcpmnaa
open Go.RowKit

structure StmtM where
  qKind : Int
  qN : Int
  qEx : List P2
  qThen : List Int
  qElse : List Int
def szStmtN (m : StmtM) : Nat := m.qEx.length + (m.qThen.length + (m.qElse.length))
def szStmtsL : List StmtM → Nat
  | [] => 0
  | m :: l => szStmtN m + szStmtsL l
def szStmtsN (l : List StmtM) : Nat := l.length + szStmtsL l
theorem szStmtsL_step {l : List StmtM} {k : Nat} (h : k < l.length) : szStmtsL (l.drop k) = szStmtN l[k] + szStmtsL (l.drop (k + 1)) := by
  rw [List.drop_eq_getElem_cons h]; rfl
theorem szStmtsL_mem : ∀ {l : List StmtM} {k : Nat} (h : k < l.length), szStmtN l[k] ≤ szStmtsL l := by
  intro l
  induction l with
  | nil => intro k h; simp at h
  | cons a l ih =>
    intro k h
    cases k with
    | zero => simp [szStmtsL]
    | succ k => have := ih (k := k) (by simpa using h); simp only [szStmtsL, List.getElem_cons_succ]; omega
def RStmt (w : World) (lo hi : Nat) (cs : List Value) (m : StmtM) : Prop := ∃ v2 v3 v4 : Value, cs = [.int .i64 m.qKind, .int .i64 m.qN, v2, v3, v4] ∧ Rg w lo hi v2 m.qEx.length (pcells m.qEx) ∧ Rg w lo hi v3 m.qThen.length (icells .i64 m.qThen) ∧ Rg w lo hi v4 m.qElse.length (icells .i64 m.qElse)
theorem RStmt_stable : Stable RStmt :=
  ⟨fun ⟨v2, v3, v4, e, h2, h3, h4⟩ hk => ⟨v2, v3, v4, e, h2.keep hk, h3.keep hk, h4.keep hk⟩, fun ⟨v2, v3, v4, e, h2, h3, h4⟩ p1 p2 => ⟨v2, v3, v4, e, h2.more p1 p2, h3.more p1 p2, h4.more p1 p2⟩⟩
def OStmt (w : World) (lo hi : Nat) (cs : List Value) (m : StmtM) : Prop := ∃ c0 c1 c2 c3 c4 : Value, cs = [c0, c1, c2, c3, c4] ∧ sc c0 ∧ sc c1 ∧ Og w lo hi 106 2 c2 m.qEx.length ∧ Og w lo hi 3 1 c3 m.qThen.length ∧ Og w lo hi 3 1 c4 m.qElse.length
theorem OStmt_stable : Stable OStmt :=
  ⟨fun ⟨c0, c1, c2, c3, c4, e, s0, s1, h2, h3, h4⟩ hk => ⟨c0, c1, c2, c3, c4, e, s0, s1, h2.keep hk, h3.keep hk, h4.keep hk⟩, fun ⟨c0, c1, c2, c3, c4, e, s0, s1, h2, h3, h4⟩ p1 p2 => ⟨c0, c1, c2, c3, c4, e, s0, s1, h2.more p1 p2, h3.more p1 p2, h4.more p1 p2⟩⟩
/-- the cells of an element of a slice that is read -/
theorem RStmt_at {w : World} {hi c i : Nat} {A : Option Addr} {l : List StmtM} (h : RL RStmt 5 w 0 hi (.slice A l.length c) l) (hl : i < l.length) :
    ∃ (b o : Nat) (v2 v3 v4 : Value), A = some ⟨b, o, none⟩ ∧ b < hi ∧ w.cell? ⟨b, o + i * 5, none⟩ = some (.int .i64 l[i].qKind) ∧ w.cell? ⟨b, o + i * 5 + 1, none⟩ = some (.int .i64 l[i].qN) ∧ w.cell? ⟨b, o + i * 5 + 2, none⟩ = some (v2) ∧ w.cell? ⟨b, o + i * 5 + 3, none⟩ = some (v3) ∧ w.cell? ⟨b, o + i * 5 + 4, none⟩ = some (v4) ∧ RStmt w 0 hi [.int .i64 l[i].qKind, .int .i64 l[i].qN, v2, v3, v4] l[i] := by
  obtain ⟨b, o, cs, hA, hb, hcl, hcell, hr⟩ := h.at_ hl
  have hr' := hr
  obtain ⟨v2, v3, v4, rfl, h2, h3, h4⟩ := hr
  exact ⟨b, o, v2, v3, v4, hA, hb.2, hcell 0 _ rfl, hcell 1 _ rfl, hcell 2 _ rfl, hcell 3 _ rfl, hcell 4 _ rfl, hr'⟩





end Go.Proofs.Ytheddnjhkcpmnaa
