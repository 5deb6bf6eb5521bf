
/- Prog in memory: what toProg, szProg, eqProg and their kin over slices do. No condition. -/
import Derived.Test.YtheddnjhkcpmnaaNst
import Derived.Test.YtheddnjhkcpmnaaNst2
import Derived.Test.YtheddnjhkcpmnaaNdFunc
import Derived.Handy
import Derived.Deep.Light
import Derived.Deep.QuietTactic
import Derived.BigQuiet
import Derived.StillTailTactics
import Derived.Deep.RegionWith
set_option linter.unusedSimpArgs false
set_option linter.unusedVariables false
set_option maxRecDepth 100000
namespace Go.Proofs.Ytheddnjhkcpmnaa
open Go.RowKit

structure ProgM where
  qFuncs : List FuncM
def szProgN (m : ProgM) : Nat := szFuncsN m.qFuncs
def szProgsL : List ProgM → Nat
  | [] => 0
  | m :: l => szProgN m + szProgsL l
def szProgsN (l : List ProgM) : Nat := l.length + szProgsL l
theorem szProgsL_step {l : List ProgM} {k : Nat} (h : k < l.length) : szProgsL (l.drop k) = szProgN l[k] + szProgsL (l.drop (k + 1)) := by
  rw [List.drop_eq_getElem_cons h]; rfl
theorem szProgsL_mem : ∀ {l : List ProgM} {k : Nat} (h : k < l.length), szProgN l[k] ≤ szProgsL l := by
  intro l
  induction l with
  | nil => intro k h; simp at h
  | cons a l ih =>
    intro k h
    cases k with
    | zero => simp [szProgsL]
    | succ k => have := ih (k := k) (by simpa using h); simp only [szProgsL, List.getElem_cons_succ]; omega
def RProg (w : World) (lo hi : Nat) (cs : List Value) (m : ProgM) : Prop := ∃ v0 : Value, cs = [v0] ∧ RL RFunc 4 w lo hi v0 m.qFuncs
theorem RProg_stable : Stable RProg :=
  ⟨fun ⟨v0, e, h0⟩ hk => ⟨v0, e, h0.keep RFunc_stable hk⟩, fun ⟨v0, e, h0⟩ p1 p2 => ⟨v0, e, h0.more RFunc_stable p1 p2⟩⟩
def OProg (w : World) (lo hi : Nat) (cs : List Value) (m : ProgM) : Prop := ∃ c0 : Value, cs = [c0] ∧ OL OFunc 59 4 w lo hi c0 m.qFuncs
theorem OProg_stable : Stable OProg :=
  ⟨fun ⟨c0, e, h0⟩ hk => ⟨c0, e, h0.keep OFunc_stable hk⟩, fun ⟨c0, e, h0⟩ p1 p2 => ⟨c0, e, h0.more OFunc_stable p1 p2⟩⟩
/-- the cells of an element of a slice that is read -/
theorem RProg_at {w : World} {hi c i : Nat} {A : Option Addr} {l : List ProgM} (h : RL RProg 1 w 0 hi (.slice A l.length c) l) (hl : i < l.length) :
    ∃ (b o : Nat) (v0 : Value), A = some ⟨b, o, none⟩ ∧ b < hi ∧ w.cell? ⟨b, o + i * 1, none⟩ = some (v0) ∧ RProg w 0 hi [v0] l[i] := by
  obtain ⟨b, o, cs, hA, hb, hcl, hcell, hr⟩ := h.at_ hl
  have hr' := hr
  obtain ⟨v0, rfl, h0⟩ := hr
  exact ⟨b, o, v0, hA, hb.2, hcell 0 _ rfl, hr'⟩





end Go.Proofs.Ytheddnjhkcpmnaa
