
/- Code in memory: what toCode, szCode, eqCode and their kin over slices do. No condition. -/
import Derived.Test.YtgkjakoagdkpcaaGreatDoorNst
import Derived.Test.YtgkjakoagdkpcaaGreatDoorSl6
import Derived.Handy
import Derived.Deep.Light
import Derived.Deep.QuietTactic
import Derived.BigQuiet
import Derived.StillTailTactics
import Derived.Deep.RegionWith
import Derived.Test.YtgkjakoagdkpcaaGreatDoorChecked
set_option linter.unusedSimpArgs false
set_option linter.unusedVariables false
set_option maxRecDepth 100000
namespace Go.Proofs.YtgkjakoagdkpcaaGreatDoor
open Go.RowKit

theorem okIns : SliceOk Tryz.prog 36 41 (.agg #[.int .i64 0, .int .i64 0]) 2 16 := .mk Tryz.underlying36 (by kernel_rfl) rfl (by decide)

end Go.Proofs.YtgkjakoagdkpcaaGreatDoor
set_option linter.unusedSimpArgs false
set_option linter.unusedVariables false
set_option maxRecDepth 100000
namespace Go.Proofs.YtgkjakoagdkpcaaGreatDoor
open Go.RowKit

structure CodeM where
  qParams : Int
  qVars : Int
  qSites : List Int
  qIns : List P2
  qRows : List R3
def szCodeN (m : CodeM) : Nat := m.qSites.length + (m.qIns.length + (m.qRows.length))
def szCodesL : List CodeM → Nat
  | [] => 0
  | m :: l => szCodeN m + szCodesL l
def szCodesN (l : List CodeM) : Nat := l.length + szCodesL l
theorem szCodesL_step {l : List CodeM} {k : Nat} (h : k < l.length) : szCodesL (l.drop k) = szCodeN l[k] + szCodesL (l.drop (k + 1)) := by
  rw [List.drop_eq_getElem_cons h]; rfl
theorem szCodesL_mem : ∀ {l : List CodeM} {k : Nat} (h : k < l.length), szCodeN l[k] ≤ szCodesL l := by
  intro l
  induction l with
  | nil => intro k h; simp at h
  | cons a l ih =>
    intro k h
    cases k with
    | zero => simp [szCodesL]
    | succ k => have := ih (k := k) (by simpa using h); simp only [szCodesL, List.getElem_cons_succ]; omega
def RCode (w : World) (lo hi : Nat) (cs : List Value) (m : CodeM) : Prop := ∃ v2 v3 v4 : Value, cs = [.int .i64 m.qParams, .int .i64 m.qVars, v2, v3, v4] ∧ Rg w lo hi v2 m.qSites.length (icells .i64 m.qSites) ∧ Rg w lo hi v3 m.qIns.length (pcells m.qIns) ∧ Rg w lo hi v4 m.qRows.length (rcells m.qRows)
theorem RCode_stable : Stable RCode :=
  ⟨fun ⟨v2, v3, v4, e, h2, h3, h4⟩ hk => ⟨v2, v3, v4, e, h2.keep hk, h3.keep hk, h4.keep hk⟩, fun ⟨v2, v3, v4, e, h2, h3, h4⟩ p1 p2 => ⟨v2, v3, v4, e, h2.more p1 p2, h3.more p1 p2, h4.more p1 p2⟩⟩
def OCode (w : World) (lo hi : Nat) (cs : List Value) (m : CodeM) : Prop := ∃ c0 c1 c2 c3 c4 : Value, cs = [c0, c1, c2, c3, c4] ∧ sc c0 ∧ sc c1 ∧ Og w lo hi 3 1 c2 m.qSites.length ∧ Og w lo hi 41 2 c3 m.qIns.length ∧ Og w lo hi 82 3 c4 m.qRows.length
theorem OCode_stable : Stable OCode :=
  ⟨fun ⟨c0, c1, c2, c3, c4, e, s0, s1, h2, h3, h4⟩ hk => ⟨c0, c1, c2, c3, c4, e, s0, s1, h2.keep hk, h3.keep hk, h4.keep hk⟩, fun ⟨c0, c1, c2, c3, c4, e, s0, s1, h2, h3, h4⟩ p1 p2 => ⟨c0, c1, c2, c3, c4, e, s0, s1, h2.more p1 p2, h3.more p1 p2, h4.more p1 p2⟩⟩
/-- the cells of an element of a slice that is read -/
theorem RCode_at {w : World} {hi c i : Nat} {A : Option Addr} {l : List CodeM} (h : RL RCode 5 w 0 hi (.slice A l.length c) l) (hl : i < l.length) :
    ∃ (b o : Nat) (v2 v3 v4 : Value), A = some ⟨b, o, none⟩ ∧ b < hi ∧ w.cell? ⟨b, o + i * 5, none⟩ = some (.int .i64 l[i].qParams) ∧ w.cell? ⟨b, o + i * 5 + 1, none⟩ = some (.int .i64 l[i].qVars) ∧ w.cell? ⟨b, o + i * 5 + 2, none⟩ = some (v2) ∧ w.cell? ⟨b, o + i * 5 + 3, none⟩ = some (v3) ∧ w.cell? ⟨b, o + i * 5 + 4, none⟩ = some (v4) ∧ RCode w 0 hi [.int .i64 l[i].qParams, .int .i64 l[i].qVars, v2, v3, v4] l[i] := by
  obtain ⟨b, o, cs, hA, hb, hcl, hcell, hr⟩ := h.at_ hl
  have hr' := hr
  obtain ⟨v2, v3, v4, rfl, h2, h3, h4⟩ := hr
  exact ⟨b, o, v2, v3, v4, hA, hb.2, hcell 0 _ rfl, hcell 1 _ rfl, hcell 2 _ rfl, hcell 3 _ rfl, hcell 4 _ rfl, hr'⟩





end Go.Proofs.YtgkjakoagdkpcaaGreatDoor
set_option linter.unusedSimpArgs false
set_option linter.unusedVariables false
set_option maxRecDepth 100000
namespace Go.Proofs.YtgkjakoagdkpcaaGreatDoor
open Go.RowKit

structure ImageM where
  qCodes : List CodeM
def szImageN (m : ImageM) : Nat := szCodesN m.qCodes
def szImagesL : List ImageM → Nat
  | [] => 0
  | m :: l => szImageN m + szImagesL l
def szImagesN (l : List ImageM) : Nat := l.length + szImagesL l
theorem szImagesL_step {l : List ImageM} {k : Nat} (h : k < l.length) : szImagesL (l.drop k) = szImageN l[k] + szImagesL (l.drop (k + 1)) := by
  rw [List.drop_eq_getElem_cons h]; rfl
theorem szImagesL_mem : ∀ {l : List ImageM} {k : Nat} (h : k < l.length), szImageN l[k] ≤ szImagesL l := by
  intro l
  induction l with
  | nil => intro k h; simp at h
  | cons a l ih =>
    intro k h
    cases k with
    | zero => simp [szImagesL]
    | succ k => have := ih (k := k) (by simpa using h); simp only [szImagesL, List.getElem_cons_succ]; omega
def RImage (w : World) (lo hi : Nat) (cs : List Value) (m : ImageM) : Prop := ∃ v0 : Value, cs = [v0] ∧ RL RCode 5 w lo hi v0 m.qCodes
theorem RImage_stable : Stable RImage :=
  ⟨fun ⟨v0, e, h0⟩ hk => ⟨v0, e, h0.keep RCode_stable hk⟩, fun ⟨v0, e, h0⟩ p1 p2 => ⟨v0, e, h0.more RCode_stable p1 p2⟩⟩
def OImage (w : World) (lo hi : Nat) (cs : List Value) (m : ImageM) : Prop := ∃ c0 : Value, cs = [c0] ∧ OL OCode 39 5 w lo hi c0 m.qCodes
theorem OImage_stable : Stable OImage :=
  ⟨fun ⟨c0, e, h0⟩ hk => ⟨c0, e, h0.keep OCode_stable hk⟩, fun ⟨c0, e, h0⟩ p1 p2 => ⟨c0, e, h0.more OCode_stable p1 p2⟩⟩
/-- the cells of an element of a slice that is read -/
theorem RImage_at {w : World} {hi c i : Nat} {A : Option Addr} {l : List ImageM} (h : RL RImage 1 w 0 hi (.slice A l.length c) l) (hl : i < l.length) :
    ∃ (b o : Nat) (v0 : Value), A = some ⟨b, o, none⟩ ∧ b < hi ∧ w.cell? ⟨b, o + i * 1, none⟩ = some (v0) ∧ RImage w 0 hi [v0] l[i] := by
  obtain ⟨b, o, cs, hA, hb, hcl, hcell, hr⟩ := h.at_ hl
  have hr' := hr
  obtain ⟨v0, rfl, h0⟩ := hr
  exact ⟨b, o, v0, hA, hb.2, hcell 0 _ rfl, hr'⟩





end Go.Proofs.YtgkjakoagdkpcaaGreatDoor
