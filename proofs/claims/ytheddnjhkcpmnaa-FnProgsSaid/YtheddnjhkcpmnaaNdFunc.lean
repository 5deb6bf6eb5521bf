
/- Func in memory: what toFunc, szFunc, eqFunc and their kin over slices do. No condition. -/
import Derived.Test.YtheddnjhkcpmnaaNst
import Derived.Test.YtheddnjhkcpmnaaNst2
import Derived.Test.YtheddnjhkcpmnaaSl6
import Derived.Test.YtheddnjhkcpmnaaNdStmt
import Derived.Handy
import Derived.Deep.Light
import Derived.Deep.QuietTactic
import Derived.BigQuiet
import Derived.StillTailTactics
import Derived.Deep.RegionWith
set_option linter.unusedSimpArgs false
set_option linter.unusedVariables false
set_option maxRecDepth 100000
namespace Go.Proofs.Ytheddnjhkcpmnaa
open Go.RowKit

structure FuncM where
  qParams : Int
  qVars : Int
  qBody : List Int
  qStmts : List StmtM
def szFuncN (m : FuncM) : Nat := m.qBody.length + (szStmtsN m.qStmts)
def szFuncsL : List FuncM → Nat
  | [] => 0
  | m :: l => szFuncN m + szFuncsL l
def szFuncsN (l : List FuncM) : Nat := l.length + szFuncsL l
theorem szFuncsL_step {l : List FuncM} {k : Nat} (h : k < l.length) : szFuncsL (l.drop k) = szFuncN l[k] + szFuncsL (l.drop (k + 1)) := by
  rw [List.drop_eq_getElem_cons h]; rfl
theorem szFuncsL_mem : ∀ {l : List FuncM} {k : Nat} (h : k < l.length), szFuncN l[k] ≤ szFuncsL l := by
  intro l
  induction l with
  | nil => intro k h; simp at h
  | cons a l ih =>
    intro k h
    cases k with
    | zero => simp [szFuncsL]
    | succ k => have := ih (k := k) (by simpa using h); simp only [szFuncsL, List.getElem_cons_succ]; omega
def RFunc (w : World) (lo hi : Nat) (cs : List Value) (m : FuncM) : Prop := ∃ v2 v3 : Value, cs = [.int .i64 m.qParams, .int .i64 m.qVars, v2, v3] ∧ Rg w lo hi v2 m.qBody.length (icells .i64 m.qBody) ∧ RL RStmt 5 w lo hi v3 m.qStmts
theorem RFunc_stable : Stable RFunc :=
  ⟨fun ⟨v2, v3, e, h2, h3⟩ hk => ⟨v2, v3, e, h2.keep hk, h3.keep RStmt_stable hk⟩, fun ⟨v2, v3, e, h2, h3⟩ p1 p2 => ⟨v2, v3, e, h2.more p1 p2, h3.more RStmt_stable p1 p2⟩⟩
def OFunc (w : World) (lo hi : Nat) (cs : List Value) (m : FuncM) : Prop := ∃ c0 c1 c2 c3 : Value, cs = [c0, c1, c2, c3] ∧ sc c0 ∧ sc c1 ∧ Og w lo hi 3 1 c2 m.qBody.length ∧ OL OStmt 103 5 w lo hi c3 m.qStmts
theorem OFunc_stable : Stable OFunc :=
  ⟨fun ⟨c0, c1, c2, c3, e, s0, s1, h2, h3⟩ hk => ⟨c0, c1, c2, c3, e, s0, s1, h2.keep hk, h3.keep OStmt_stable hk⟩, fun ⟨c0, c1, c2, c3, e, s0, s1, h2, h3⟩ p1 p2 => ⟨c0, c1, c2, c3, e, s0, s1, h2.more p1 p2, h3.more OStmt_stable p1 p2⟩⟩
/-- the cells of an element of a slice that is read -/
theorem RFunc_at {w : World} {hi c i : Nat} {A : Option Addr} {l : List FuncM} (h : RL RFunc 4 w 0 hi (.slice A l.length c) l) (hl : i < l.length) :
    ∃ (b o : Nat) (v2 v3 : Value), A = some ⟨b, o, none⟩ ∧ b < hi ∧ w.cell? ⟨b, o + i * 4, none⟩ = some (.int .i64 l[i].qParams) ∧ w.cell? ⟨b, o + i * 4 + 1, none⟩ = some (.int .i64 l[i].qVars) ∧ w.cell? ⟨b, o + i * 4 + 2, none⟩ = some (v2) ∧ w.cell? ⟨b, o + i * 4 + 3, none⟩ = some (v3) ∧ RFunc w 0 hi [.int .i64 l[i].qParams, .int .i64 l[i].qVars, v2, v3] l[i] := by
  obtain ⟨b, o, cs, hA, hb, hcl, hcell, hr⟩ := h.at_ hl
  have hr' := hr
  obtain ⟨v2, v3, rfl, h2, h3⟩ := hr
  exact ⟨b, o, v2, v3, hA, hb.2, hcell 0 _ rfl, hcell 1 _ rfl, hcell 2 _ rfl, hcell 3 _ rfl, hr'⟩





end Go.Proofs.Ytheddnjhkcpmnaa
