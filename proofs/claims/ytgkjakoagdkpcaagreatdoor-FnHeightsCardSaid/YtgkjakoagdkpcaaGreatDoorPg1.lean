
/- sitesOf, orderOf and the reference's: what the Go text returns. No condition. -/
import Derived.Test.YtgkjakoagdkpcaaGreatDoorSl6
import Derived.Test.YtgkjakoagdkpcaaGreatDoorPgF
import Derived.Test.YtgkjakoagdkpcaaGreatDoorEx
import Derived.Test.YtgkjakoagdkpcaaGreatDoorIn
import Derived.Laws.AppendOwnNone
import Derived.Deep.RegionHeld3
import Derived.Deep.RegionWith
set_option linter.unusedSimpArgs false
set_option linter.unusedVariables false
set_option maxRecDepth 100000
namespace Go.Proofs.YtgkjakoagdkpcaaGreatDoor
open Go.RowKit

/-- the cells of a statement that is read, spelled out -/
theorem RStmt_lit {w : World} {hi c i : Nat} {A : Option Addr} {l : List StmtM} (h : RL RStmt 5 w 0 hi (.slice A l.length c) l) (hl : i < l.length) :
    ∃ (b o : Nat) (A2 : Option Addr) (c2 : Nat) (A3 : Option Addr) (c3 : Nat) (A4 : Option Addr) (c4 : Nat), A = some ⟨b, o, none⟩ ∧ b < hi ∧ w.cell? ⟨b, o + i * 5, none⟩ = some (.int .i64 l[i].qKind) ∧ w.cell? ⟨b, o + i * 5 + 1, none⟩ = some (.int .i64 l[i].qN) ∧
      w.cell? ⟨b, o + i * 5 + 2, none⟩ = some (.slice A2 l[i].qEx.length c2) ∧ w.cell? ⟨b, o + i * 5 + 3, none⟩ = some (.slice A3 l[i].qThen.length c3) ∧ w.cell? ⟨b, o + i * 5 + 4, none⟩ = some (.slice A4 l[i].qElse.length c4) ∧
      Rg w 0 hi (.slice A2 l[i].qEx.length c2) l[i].qEx.length (pcells l[i].qEx) ∧ Rg w 0 hi (.slice A3 l[i].qThen.length c3) l[i].qThen.length (icells .i64 l[i].qThen) ∧ Rg w 0 hi (.slice A4 l[i].qElse.length c4) l[i].qElse.length (icells .i64 l[i].qElse) := by
  obtain ⟨b, o, v2, v3, v4, hA, hb, e0, e1, e2, e3, e4, hx⟩ := RStmt_at h hl
  obtain ⟨z2, z3, z4, ez, r2, r3, r4⟩ := hx
  injection ez with _ ez
  injection ez with _ ez
  injection ez with ez1 ez
  injection ez with ez2 ez
  injection ez with ez3 _
  subst ez1 ez2 ez3
  obtain ⟨A2, c2, rfl⟩ := r2.form
  obtain ⟨A3, c3, rfl⟩ := r3.form
  obtain ⟨A4, c4, rfl⟩ := r4.form
  exact ⟨b, o, A2, c2, A3, c3, A4, c4, hA, hb, e0, e1, e2, e3, e4, r2, r3, r4⟩
theorem RFunc_lit {w : World} {hi c i : Nat} {A : Option Addr} {l : List FuncM} (h : RL RFunc 4 w 0 hi (.slice A l.length c) l) (hl : i < l.length) :
    ∃ (b o : Nat) (A2 : Option Addr) (c2 : Nat) (A3 : Option Addr) (c3 : Nat), A = some ⟨b, o, none⟩ ∧ b < hi ∧ w.cell? ⟨b, o + i * 4, none⟩ = some (.int .i64 l[i].qParams) ∧ w.cell? ⟨b, o + i * 4 + 1, none⟩ = some (.int .i64 l[i].qVars) ∧
      w.cell? ⟨b, o + i * 4 + 2, none⟩ = some (.slice A2 l[i].qBody.length c2) ∧ w.cell? ⟨b, o + i * 4 + 3, none⟩ = some (.slice A3 l[i].qStmts.length c3) ∧
      RFunc w 0 hi [.int .i64 l[i].qParams, .int .i64 l[i].qVars, .slice A2 l[i].qBody.length c2, .slice A3 l[i].qStmts.length c3] l[i] := by
  obtain ⟨b, o, v2, v3, hA, hb, e0, e1, e2, e3, hx⟩ := RFunc_at h hl
  have hx' := hx
  obtain ⟨z2, z3, ez, r2, r3⟩ := hx
  injection ez with _ ez
  injection ez with _ ez
  injection ez with ez1 ez
  injection ez with ez2 _
  subst ez1 ez2
  obtain ⟨A2, c2, rfl⟩ := r2.form
  obtain ⟨A3, c3, rfl⟩ := r3.form
  exact ⟨b, o, A2, c2, A3, c3, hA, hb, e0, e1, e2, e3, hx'⟩

/-- the order with one step more, from place k of the block -/
theorem ord_drop {f : Kids} {d k : Nat} {b : List Int} (hk : k < b.length) : ordN f (d + 1) (natL (b.drop k)) = b[k].toNat :: (ordN f d (kid f b[k].toNat).1 ++ ordN f d (kid f b[k].toNat).2) ++ ordN f (d + 1) (natL (b.drop (k + 1))) := by
  rw [List.drop_eq_getElem_cons hk]
  show ordN f (d + 1) (b[k].toNat :: natL (b.drop (k + 1))) = _
  rw [ord_cons]
theorem intL_append (a b : List Nat) : intL (a ++ b) = intL a ++ intL b := by simp [intL]

end Go.Proofs.YtgkjakoagdkpcaaGreatDoor
