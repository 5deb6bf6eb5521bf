
/- Stmt in memory: what toStmt, szStmt, eqStmt and their kin over slices do. No condition. -/
import Derived.Test.YtgkjakoagdkpcaaGreatDoorNst
import Derived.Test.YtgkjakoagdkpcaaGreatDoorTokM
import Derived.Test.YtgkjakoagdkpcaaGreatDoorSl6
import Derived.Handy
import Derived.Deep.Light
import Derived.Deep.QuietTactic
import Derived.BigQuiet
import Derived.StillTailTactics
import Derived.Deep.RegionWith
set_option linter.unusedSimpArgs false
set_option linter.unusedVariables false
set_option maxRecDepth 100000
namespace Go.Proofs.YtgkjakoagdkpcaaGreatDoor
open Go.RowKit

structure StmtM where
  qKind : Int
  qN : Int
  qEx : List P2
  qThen : List Int
  qElse : List Int
def szStmtN (m : StmtM) : Nat := m.qEx.length + (m.qThen.length + (m.qElse.length))
def szStmtsL : List StmtM → Nat
  | [] => 0
  | m :: l => szStmtN m + szStmtsL l
def szStmtsN (l : List StmtM) : Nat := l.length + szStmtsL l
theorem szStmtsL_step {l : List StmtM} {k : Nat} (h : k < l.length) : szStmtsL (l.drop k) = szStmtN l[k] + szStmtsL (l.drop (k + 1)) := by
  rw [List.drop_eq_getElem_cons h]; rfl
theorem szStmtsL_mem : ∀ {l : List StmtM} {k : Nat} (h : k < l.length), szStmtN l[k] ≤ szStmtsL l := by
  intro l
  induction l with
  | nil => intro k h; simp at h
  | cons a l ih =>
    intro k h
    cases k with
    | zero => simp [szStmtsL]
    | succ k => have := ih (k := k) (by simpa using h); simp only [szStmtsL, List.getElem_cons_succ]; omega
def RStmt (w : World) (lo hi : Nat) (cs : List Value) (m : StmtM) : Prop := ∃ v2 v3 v4 : Value, cs = [.int .i64 m.qKind, .int .i64 m.qN, v2, v3, v4] ∧ Rg w lo hi v2 m.qEx.length (pcells m.qEx) ∧ Rg w lo hi v3 m.qThen.length (icells .i64 m.qThen) ∧ Rg w lo hi v4 m.qElse.length (icells .i64 m.qElse)
theorem RStmt_stable : Stable RStmt :=
  ⟨fun ⟨v2, v3, v4, e, h2, h3, h4⟩ hk => ⟨v2, v3, v4, e, h2.keep hk, h3.keep hk, h4.keep hk⟩, fun ⟨v2, v3, v4, e, h2, h3, h4⟩ p1 p2 => ⟨v2, v3, v4, e, h2.more p1 p2, h3.more p1 p2, h4.more p1 p2⟩⟩
def OStmt (w : World) (lo hi : Nat) (cs : List Value) (m : StmtM) : Prop := ∃ c0 c1 c2 c3 c4 : Value, cs = [c0, c1, c2, c3, c4] ∧ sc c0 ∧ sc c1 ∧ Og w lo hi 142 2 c2 m.qEx.length ∧ Og w lo hi 3 1 c3 m.qThen.length ∧ Og w lo hi 3 1 c4 m.qElse.length
theorem OStmt_stable : Stable OStmt :=
  ⟨fun ⟨c0, c1, c2, c3, c4, e, s0, s1, h2, h3, h4⟩ hk => ⟨c0, c1, c2, c3, c4, e, s0, s1, h2.keep hk, h3.keep hk, h4.keep hk⟩, fun ⟨c0, c1, c2, c3, c4, e, s0, s1, h2, h3, h4⟩ p1 p2 => ⟨c0, c1, c2, c3, c4, e, s0, s1, h2.more p1 p2, h3.more p1 p2, h4.more p1 p2⟩⟩
/-- the cells of an element of a slice that is read -/
theorem RStmt_at {w : World} {hi c i : Nat} {A : Option Addr} {l : List StmtM} (h : RL RStmt 5 w 0 hi (.slice A l.length c) l) (hl : i < l.length) :
    ∃ (b o : Nat) (v2 v3 v4 : Value), A = some ⟨b, o, none⟩ ∧ b < hi ∧ w.cell? ⟨b, o + i * 5, none⟩ = some (.int .i64 l[i].qKind) ∧ w.cell? ⟨b, o + i * 5 + 1, none⟩ = some (.int .i64 l[i].qN) ∧ w.cell? ⟨b, o + i * 5 + 2, none⟩ = some (v2) ∧ w.cell? ⟨b, o + i * 5 + 3, none⟩ = some (v3) ∧ w.cell? ⟨b, o + i * 5 + 4, none⟩ = some (v4) ∧ RStmt w 0 hi [.int .i64 l[i].qKind, .int .i64 l[i].qN, v2, v3, v4] l[i] := by
  obtain ⟨b, o, cs, hA, hb, hcl, hcell, hr⟩ := h.at_ hl
  have hr' := hr
  obtain ⟨v2, v3, v4, rfl, h2, h3, h4⟩ := hr
  exact ⟨b, o, v2, v3, v4, hA, hb.2, hcell 0 _ rfl, hcell 1 _ rfl, hcell 2 _ rfl, hcell 3 _ rfl, hcell 4 _ rfl, hr'⟩





end Go.Proofs.YtgkjakoagdkpcaaGreatDoor
set_option linter.unusedSimpArgs false
set_option linter.unusedVariables false
set_option maxRecDepth 100000
namespace Go.Proofs.YtgkjakoagdkpcaaGreatDoor
open Go.RowKit

structure FuncM where
  qParams : Int
  qVars : Int
  qBody : List Int
  qStmts : List StmtM
def szFuncN (m : FuncM) : Nat := m.qBody.length + (szStmtsN m.qStmts)
def szFuncsL : List FuncM → Nat
  | [] => 0
  | m :: l => szFuncN m + szFuncsL l
def szFuncsN (l : List FuncM) : Nat := l.length + szFuncsL l
theorem szFuncsL_step {l : List FuncM} {k : Nat} (h : k < l.length) : szFuncsL (l.drop k) = szFuncN l[k] + szFuncsL (l.drop (k + 1)) := by
  rw [List.drop_eq_getElem_cons h]; rfl
theorem szFuncsL_mem : ∀ {l : List FuncM} {k : Nat} (h : k < l.length), szFuncN l[k] ≤ szFuncsL l := by
  intro l
  induction l with
  | nil => intro k h; simp at h
  | cons a l ih =>
    intro k h
    cases k with
    | zero => simp [szFuncsL]
    | succ k => have := ih (k := k) (by simpa using h); simp only [szFuncsL, List.getElem_cons_succ]; omega
def RFunc (w : World) (lo hi : Nat) (cs : List Value) (m : FuncM) : Prop := ∃ v2 v3 : Value, cs = [.int .i64 m.qParams, .int .i64 m.qVars, v2, v3] ∧ Rg w lo hi v2 m.qBody.length (icells .i64 m.qBody) ∧ RL RStmt 5 w lo hi v3 m.qStmts
theorem RFunc_stable : Stable RFunc :=
  ⟨fun ⟨v2, v3, e, h2, h3⟩ hk => ⟨v2, v3, e, h2.keep hk, h3.keep RStmt_stable hk⟩, fun ⟨v2, v3, e, h2, h3⟩ p1 p2 => ⟨v2, v3, e, h2.more p1 p2, h3.more RStmt_stable p1 p2⟩⟩
def OFunc (w : World) (lo hi : Nat) (cs : List Value) (m : FuncM) : Prop := ∃ c0 c1 c2 c3 : Value, cs = [c0, c1, c2, c3] ∧ sc c0 ∧ sc c1 ∧ Og w lo hi 3 1 c2 m.qBody.length ∧ OL OStmt 140 5 w lo hi c3 m.qStmts
theorem OFunc_stable : Stable OFunc :=
  ⟨fun ⟨c0, c1, c2, c3, e, s0, s1, h2, h3⟩ hk => ⟨c0, c1, c2, c3, e, s0, s1, h2.keep hk, h3.keep OStmt_stable hk⟩, fun ⟨c0, c1, c2, c3, e, s0, s1, h2, h3⟩ p1 p2 => ⟨c0, c1, c2, c3, e, s0, s1, h2.more p1 p2, h3.more OStmt_stable p1 p2⟩⟩
/-- the cells of an element of a slice that is read -/
theorem RFunc_at {w : World} {hi c i : Nat} {A : Option Addr} {l : List FuncM} (h : RL RFunc 4 w 0 hi (.slice A l.length c) l) (hl : i < l.length) :
    ∃ (b o : Nat) (v2 v3 : Value), A = some ⟨b, o, none⟩ ∧ b < hi ∧ w.cell? ⟨b, o + i * 4, none⟩ = some (.int .i64 l[i].qParams) ∧ w.cell? ⟨b, o + i * 4 + 1, none⟩ = some (.int .i64 l[i].qVars) ∧ w.cell? ⟨b, o + i * 4 + 2, none⟩ = some (v2) ∧ w.cell? ⟨b, o + i * 4 + 3, none⟩ = some (v3) ∧ RFunc w 0 hi [.int .i64 l[i].qParams, .int .i64 l[i].qVars, v2, v3] l[i] := by
  obtain ⟨b, o, cs, hA, hb, hcl, hcell, hr⟩ := h.at_ hl
  have hr' := hr
  obtain ⟨v2, v3, rfl, h2, h3⟩ := hr
  exact ⟨b, o, v2, v3, hA, hb.2, hcell 0 _ rfl, hcell 1 _ rfl, hcell 2 _ rfl, hcell 3 _ rfl, hr'⟩





end Go.Proofs.YtgkjakoagdkpcaaGreatDoor
set_option linter.unusedSimpArgs false
set_option linter.unusedVariables false
set_option maxRecDepth 100000
namespace Go.Proofs.YtgkjakoagdkpcaaGreatDoor
open Go.RowKit

structure ProgM where
  qFuncs : List FuncM
def szProgN (m : ProgM) : Nat := szFuncsN m.qFuncs
def szProgsL : List ProgM → Nat
  | [] => 0
  | m :: l => szProgN m + szProgsL l
def szProgsN (l : List ProgM) : Nat := l.length + szProgsL l
theorem szProgsL_step {l : List ProgM} {k : Nat} (h : k < l.length) : szProgsL (l.drop k) = szProgN l[k] + szProgsL (l.drop (k + 1)) := by
  rw [List.drop_eq_getElem_cons h]; rfl
theorem szProgsL_mem : ∀ {l : List ProgM} {k : Nat} (h : k < l.length), szProgN l[k] ≤ szProgsL l := by
  intro l
  induction l with
  | nil => intro k h; simp at h
  | cons a l ih =>
    intro k h
    cases k with
    | zero => simp [szProgsL]
    | succ k => have := ih (k := k) (by simpa using h); simp only [szProgsL, List.getElem_cons_succ]; omega
def RProg (w : World) (lo hi : Nat) (cs : List Value) (m : ProgM) : Prop := ∃ v0 : Value, cs = [v0] ∧ RL RFunc 4 w lo hi v0 m.qFuncs
theorem RProg_stable : Stable RProg :=
  ⟨fun ⟨v0, e, h0⟩ hk => ⟨v0, e, h0.keep RFunc_stable hk⟩, fun ⟨v0, e, h0⟩ p1 p2 => ⟨v0, e, h0.more RFunc_stable p1 p2⟩⟩
def OProg (w : World) (lo hi : Nat) (cs : List Value) (m : ProgM) : Prop := ∃ c0 : Value, cs = [c0] ∧ OL OFunc 135 4 w lo hi c0 m.qFuncs
theorem OProg_stable : Stable OProg :=
  ⟨fun ⟨c0, e, h0⟩ hk => ⟨c0, e, h0.keep OFunc_stable hk⟩, fun ⟨c0, e, h0⟩ p1 p2 => ⟨c0, e, h0.more OFunc_stable p1 p2⟩⟩
/-- the cells of an element of a slice that is read -/
theorem RProg_at {w : World} {hi c i : Nat} {A : Option Addr} {l : List ProgM} (h : RL RProg 1 w 0 hi (.slice A l.length c) l) (hl : i < l.length) :
    ∃ (b o : Nat) (v0 : Value), A = some ⟨b, o, none⟩ ∧ b < hi ∧ w.cell? ⟨b, o + i * 1, none⟩ = some (v0) ∧ RProg w 0 hi [v0] l[i] := by
  obtain ⟨b, o, cs, hA, hb, hcl, hcell, hr⟩ := h.at_ hl
  have hr' := hr
  obtain ⟨v0, rfl, h0⟩ := hr
  exact ⟨b, o, v0, hA, hb.2, hcell 0 _ rfl, hr'⟩





end Go.Proofs.YtgkjakoagdkpcaaGreatDoor
