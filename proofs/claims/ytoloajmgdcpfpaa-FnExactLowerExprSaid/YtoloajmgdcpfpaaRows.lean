/-
  No cell of these rows narrows 'for every input' (looked for: loops, veiled, ifaces, maps, wideKeys, modest, calm, conditions, laid).
  DERIVED. THE GIVEN ROWS OF THIS SEAT. 3 by the template 'for every input the law returns true; each argument reads behind the call as it read before'; 0 by the template 'total and deterministic' (their statements: YtoloajmgdcpfpaaTotals.lean).
  GIVEN WITH THE SEED: the statements are not yours to turn. If you find one false, say at which input.
  Laid BY PROGRAM, IN A SANDBOX (cutbox-rows.mjs): the forced cells as the released guide's own fill.sh prints them over the translation 900488c294e0abf6… (all of the seat's roots in one cut). By AI agents, Wed Nov 11 2026. No macro, syntax, notation, axiom, sorry.
-/
import Derived.Test.YtoloajmgdcpfpaaChecked
import GoSem.Claim
import GoSem.ClaimJoined
import GoSem.ClaimMapViews
import Derived.JoinedTies
import Derived.KernelRfl
namespace Go.Proofs.Ytoloajmgdcpfpaa
/- THE CELL 'sum', in the pinned program and in every row, IS THE sha256 OF THE DUMP (.gsa) THAT YtoloajmgdcpfpaaProg.lean LOADS. Nothing in Lean hashes anything: it is a label: what it is worth is what the hold of that sum in a sandbox is worth. -/
noncomputable def Try.pinned : Pinned := { name := "ytoloajmgdcpfpaa", sum := "900488c294e0abf6684c8cae5a9dfc88b3465848cdb3fa0cf0dbb828bca9abed", checked := Try.checked }
namespace Rows
def none {H : Type} : Left H := { results := [], args := [] }

/-- 'laws.FnLeb': WHATEVER THE INPUT: true; the input reads as it did. -/
def fnLebSpec : ChangeSpec := { name := "fnLeb", fn := fun _ => fun
  | [d1, d2] => { results := [.lit (.bool true)], args := [d1, d2] }
  | _ => none }
def fnLebRow : OpenClaim := { program := "ytoloajmgdcpfpaa", sum := "900488c294e0abf6684c8cae5a9dfc88b3465848cdb3fa0cf0dbb828bca9abed", func := "loop.example/g00745/laws.FnLeb", spec := "fnLeb", apart := false }
def FnLebSaid : Prop := fnLebRow.holds Try.pinned (OpenSpec.ofChange fnLebSpec)

/-- ITS FALSE NEIGHBOUR: 'it returns false'. Refute it at one input. -/
def fnLebWrong : ChangeSpec := { name := "fnLeb", fn := fun _ => fun
  | [d1, d2] => { results := [.lit (.bool false)], args := [d1, d2] }
  | _ => none }
def FnLebWrongFalsely : Prop := fnLebRow.holds Try.pinned (OpenSpec.ofChange fnLebWrong)

/-- 'laws.FnExactLowerExpr': WHATEVER THE INPUT: true; the input reads as it did. -/
def fnExactLowerExprSpec : ChangeSpec := { name := "fnExactLowerExpr", fn := fun _ => fun
  | [d] => { results := [.lit (.bool true)], args := [d] }
  | _ => none }
def fnExactLowerExprRow : OpenClaim := { program := "ytoloajmgdcpfpaa", sum := "900488c294e0abf6684c8cae5a9dfc88b3465848cdb3fa0cf0dbb828bca9abed", func := "loop.example/g00745/laws.FnExactLowerExpr", spec := "fnExactLowerExpr", unfollowed := true, recurses := true, apart := false }
def FnExactLowerExprSaid : Prop := fnExactLowerExprRow.holds Try.pinned (OpenSpec.ofChange fnExactLowerExprSpec)

/-- ITS FALSE NEIGHBOUR: 'it returns false'. Refute it at one input. -/
def fnExactLowerExprWrong : ChangeSpec := { name := "fnExactLowerExpr", fn := fun _ => fun
  | [d] => { results := [.lit (.bool false)], args := [d] }
  | _ => none }
def FnExactLowerExprWrongFalsely : Prop := fnExactLowerExprRow.holds Try.pinned (OpenSpec.ofChange fnExactLowerExprWrong)

/-- 'laws.FnLebLists': WHATEVER THE INPUT: true; the input reads as it did. -/
def fnLebListsSpec : ChangeSpec := { name := "fnLebLists", fn := fun _ => fun
  | [d1, d2] => { results := [.lit (.bool true)], args := [d1, d2] }
  | _ => none }
def fnLebListsRow : OpenClaim := { program := "ytoloajmgdcpfpaa", sum := "900488c294e0abf6684c8cae5a9dfc88b3465848cdb3fa0cf0dbb828bca9abed", func := "loop.example/g00745/laws.FnLebLists", spec := "fnLebLists", inPlace := ["internal/abi.NoEscape"], apart := false }
def FnLebListsSaid : Prop := fnLebListsRow.holds Try.pinned (OpenSpec.ofChange fnLebListsSpec)

/-- ITS FALSE NEIGHBOUR: 'it returns false'. Refute it at one input. -/
def fnLebListsWrong : ChangeSpec := { name := "fnLebLists", fn := fun _ => fun
  | [d1, d2] => { results := [.lit (.bool false)], args := [d1, d2] }
  | _ => none }
def FnLebListsWrongFalsely : Prop := fnLebListsRow.holds Try.pinned (OpenSpec.ofChange fnLebListsWrong)

/- THE SECOND FORM. 'bulk': how many values and letters a reading holds, each counted each time it is reached (what is shared counts as often as it is met; a slice's spare places count too). A statement '..UptoSaid' is the law's where the arguments, and the package variables that the reading takes, are together of bulk at most 1048576: NARROWER than '..Said'. Prove '..Said' where nothing that the law and all that it calls make is longer than what came in: it says more and counts as full. Else prove '..UptoSaid'. A law counts once. -/
mutual
def uptoBulk {H : Type} : DataW H → Nat
  | .lit (.string bytes) => bytes.length + 1
  | .lit _ => 1
  | .nil => 1
  | .ptr d => uptoBulk d + 1
  | .slice elems spare => uptoBulkAll elems + uptoBulkAll spare + 1
  | .agg parts => uptoBulkAll parts + 1
  | .iface _ d => uptoBulk d + 1
  | .map entries => uptoBulkEntries entries + 1
  | .held _ => 1
def uptoBulkAll {H : Type} : List (DataW H) → Nat
  | [] => 0
  | d :: r => uptoBulk d + uptoBulkAll r
def uptoBulkEntries {H : Type} : List (Lit × DataW H) → Nat
  | [] => 0
  | x :: r => uptoBulkEntry x + uptoBulkEntries r
def uptoBulkEntry {H : Type} : Lit × DataW H → Nat
  | (.string bytes, d) => bytes.length + uptoBulk d + 1
  | (_, d) => uptoBulk d + 1
 end
def uptoSmall : (H : Type) → List (DataW H) → Bool := fun _ ds => decide (uptoBulkAll ds ≤ 1048576)
def OpenSpec.upto (s : _root_.Go.ChangeSpec) : _root_.Go.OpenSpec := { _root_.Go.OpenSpec.ofChange s with cond := some uptoSmall }

/-- 'laws.FnLeb', WHERE WHAT IT READS IS OF BULK AT MOST 1048576: true; the input reads as it did. -/
def fnLebUptoRow : OpenClaim := { program := "ytoloajmgdcpfpaa", sum := "900488c294e0abf6684c8cae5a9dfc88b3465848cdb3fa0cf0dbb828bca9abed", func := "loop.example/g00745/laws.FnLeb", spec := "fnLeb", apart := false, narrowed := true }
def FnLebUptoSaid : Prop := fnLebUptoRow.holds Try.pinned (OpenSpec.upto fnLebSpec)

/-- 'laws.FnExactLowerExpr', WHERE WHAT IT READS IS OF BULK AT MOST 1048576: true; the input reads as it did. -/
def fnExactLowerExprUptoRow : OpenClaim := { program := "ytoloajmgdcpfpaa", sum := "900488c294e0abf6684c8cae5a9dfc88b3465848cdb3fa0cf0dbb828bca9abed", func := "loop.example/g00745/laws.FnExactLowerExpr", spec := "fnExactLowerExpr", unfollowed := true, recurses := true, apart := false, narrowed := true }
def FnExactLowerExprUptoSaid : Prop := fnExactLowerExprUptoRow.holds Try.pinned (OpenSpec.upto fnExactLowerExprSpec)

/-- 'laws.FnLebLists', WHERE WHAT IT READS IS OF BULK AT MOST 1048576: true; the input reads as it did. -/
def fnLebListsUptoRow : OpenClaim := { program := "ytoloajmgdcpfpaa", sum := "900488c294e0abf6684c8cae5a9dfc88b3465848cdb3fa0cf0dbb828bca9abed", func := "loop.example/g00745/laws.FnLebLists", spec := "fnLebLists", inPlace := ["internal/abi.NoEscape"], apart := false, narrowed := true }
def FnLebListsUptoSaid : Prop := fnLebListsUptoRow.holds Try.pinned (OpenSpec.upto fnLebListsSpec)

end Rows
end Go.Proofs.Ytoloajmgdcpfpaa
