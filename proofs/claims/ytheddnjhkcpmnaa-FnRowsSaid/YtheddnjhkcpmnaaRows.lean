/-
  No cell of these rows narrows 'for every input' (looked for: loops, veiled, ifaces, maps, wideKeys, modest, calm, conditions, laid).
  DERIVED. THE GIVEN ROWS OF THIS SEAT. 5 by the template 'for every input the law returns true; each argument reads behind the call as it read before'; 0 by the template 'total and deterministic' (their statements: YtheddnjhkcpmnaaTotals.lean).
  GIVEN WITH THE SEED: the statements are not yours to turn. If you find one false, say at which input.
  Laid BY PROGRAM, IN A SANDBOX (cutbox-rows.mjs): the forced cells as the released guide's own fill.sh prints them over the translation 66bcf631ef38b88c… (all of the seat's roots in one cut). By AI agents, Wed Nov 11 2026. No macro, syntax, notation, axiom, sorry.
-/
import Derived.Test.YtheddnjhkcpmnaaChecked
import GoSem.Claim
import GoSem.ClaimJoined
import GoSem.ClaimMapViews
import Derived.JoinedTies
import Derived.KernelRfl
namespace Go.Proofs.Ytheddnjhkcpmnaa
/- THE CELL 'sum', in the pinned program and in every row, IS THE sha256 OF THE DUMP (.gsa) THAT YtheddnjhkcpmnaaProg.lean LOADS. Nothing in Lean hashes anything: it is a label: what it is worth is what the hold of that sum in a sandbox is worth. -/
noncomputable def Try.pinned : Pinned := { name := "ytheddnjhkcpmnaa", sum := "66bcf631ef38b88c96c5c7c8d8d492f890cb569540b7c90f7be5454fd1771a38", checked := Try.checked }
namespace Rows
def none {H : Type} : Left H := { results := [], args := [] }

/-- 'laws.FnLeb': WHATEVER THE INPUT: true; the input reads as it did. -/
def fnLebSpec : ChangeSpec := { name := "fnLeb", fn := fun _ => fun
  | [d1, d2] => { results := [.lit (.bool true)], args := [d1, d2] }
  | _ => none }
def fnLebRow : OpenClaim := { program := "ytheddnjhkcpmnaa", sum := "66bcf631ef38b88c96c5c7c8d8d492f890cb569540b7c90f7be5454fd1771a38", func := "loop.example/g00745/laws.FnLeb", spec := "fnLeb", apart := false }
def FnLebSaid : Prop := fnLebRow.holds Try.pinned (OpenSpec.ofChange fnLebSpec)

/-- ITS FALSE NEIGHBOUR: 'it returns false'. Refute it at one input. -/
def fnLebWrong : ChangeSpec := { name := "fnLeb", fn := fun _ => fun
  | [d1, d2] => { results := [.lit (.bool false)], args := [d1, d2] }
  | _ => none }
def FnLebWrongFalsely : Prop := fnLebRow.holds Try.pinned (OpenSpec.ofChange fnLebWrong)

/-- 'laws.FnLebLists': WHATEVER THE INPUT: true; the input reads as it did. -/
def fnLebListsSpec : ChangeSpec := { name := "fnLebLists", fn := fun _ => fun
  | [d1, d2] => { results := [.lit (.bool true)], args := [d1, d2] }
  | _ => none }
def fnLebListsRow : OpenClaim := { program := "ytheddnjhkcpmnaa", sum := "66bcf631ef38b88c96c5c7c8d8d492f890cb569540b7c90f7be5454fd1771a38", func := "loop.example/g00745/laws.FnLebLists", spec := "fnLebLists", inPlace := ["internal/abi.NoEscape"], apart := false }
def FnLebListsSaid : Prop := fnLebListsRow.holds Try.pinned (OpenSpec.ofChange fnLebListsSpec)

/-- ITS FALSE NEIGHBOUR: 'it returns false'. Refute it at one input. -/
def fnLebListsWrong : ChangeSpec := { name := "fnLebLists", fn := fun _ => fun
  | [d1, d2] => { results := [.lit (.bool false)], args := [d1, d2] }
  | _ => none }
def FnLebListsWrongFalsely : Prop := fnLebListsRow.holds Try.pinned (OpenSpec.ofChange fnLebListsWrong)

/-- 'laws.FnProgs': WHATEVER THE INPUT: true; the input reads as it did. -/
def fnProgsSpec : ChangeSpec := { name := "fnProgs", fn := fun _ => fun
  | [d1, d2] => { results := [.lit (.bool true)], args := [d1, d2] }
  | _ => none }
def fnProgsRow : OpenClaim := { program := "ytheddnjhkcpmnaa", sum := "66bcf631ef38b88c96c5c7c8d8d492f890cb569540b7c90f7be5454fd1771a38", func := "loop.example/g00745/laws.FnProgs", spec := "fnProgs", unfollowed := true, recurses := true, apart := false }
def FnProgsSaid : Prop := fnProgsRow.holds Try.pinned (OpenSpec.ofChange fnProgsSpec)

/-- ITS FALSE NEIGHBOUR: 'it returns false'. Refute it at one input. -/
def fnProgsWrong : ChangeSpec := { name := "fnProgs", fn := fun _ => fun
  | [d1, d2] => { results := [.lit (.bool false)], args := [d1, d2] }
  | _ => none }
def FnProgsWrongFalsely : Prop := fnProgsRow.holds Try.pinned (OpenSpec.ofChange fnProgsWrong)

/-- 'laws.FnRows': WHATEVER THE INPUT: true; the input reads as it did. -/
def fnRowsSpec : ChangeSpec := { name := "fnRows", fn := fun _ => fun
  | [d1, d2] => { results := [.lit (.bool true)], args := [d1, d2] }
  | _ => none }
def fnRowsRow : OpenClaim := { program := "ytheddnjhkcpmnaa", sum := "66bcf631ef38b88c96c5c7c8d8d492f890cb569540b7c90f7be5454fd1771a38", func := "loop.example/g00745/laws.FnRows", spec := "fnRows", unfollowed := true, recurses := true, apart := false }
def FnRowsSaid : Prop := fnRowsRow.holds Try.pinned (OpenSpec.ofChange fnRowsSpec)

/-- ITS FALSE NEIGHBOUR: 'it returns false'. Refute it at one input. -/
def fnRowsWrong : ChangeSpec := { name := "fnRows", fn := fun _ => fun
  | [d1, d2] => { results := [.lit (.bool false)], args := [d1, d2] }
  | _ => none }
def FnRowsWrongFalsely : Prop := fnRowsRow.holds Try.pinned (OpenSpec.ofChange fnRowsWrong)

/-- 'laws.FnRowsBytes': WHATEVER THE INPUT: true; the input reads as it did. -/
def fnRowsBytesSpec : ChangeSpec := { name := "fnRowsBytes", fn := fun _ => fun
  | [d1, d2] => { results := [.lit (.bool true)], args := [d1, d2] }
  | _ => none }
def fnRowsBytesRow : OpenClaim := { program := "ytheddnjhkcpmnaa", sum := "66bcf631ef38b88c96c5c7c8d8d492f890cb569540b7c90f7be5454fd1771a38", func := "loop.example/g00745/laws.FnRowsBytes", spec := "fnRowsBytes", recurses := true, apart := false }
def FnRowsBytesSaid : Prop := fnRowsBytesRow.holds Try.pinned (OpenSpec.ofChange fnRowsBytesSpec)

/-- ITS FALSE NEIGHBOUR: 'it returns false'. Refute it at one input. -/
def fnRowsBytesWrong : ChangeSpec := { name := "fnRowsBytes", fn := fun _ => fun
  | [d1, d2] => { results := [.lit (.bool false)], args := [d1, d2] }
  | _ => none }
def FnRowsBytesWrongFalsely : Prop := fnRowsBytesRow.holds Try.pinned (OpenSpec.ofChange fnRowsBytesWrong)

/- THE SECOND FORM. 'bulk': how many values and letters a reading holds, each counted each time it is reached (what is shared counts as often as it is met; a slice's spare places count too). A statement '..UptoSaid' is the law's where the arguments, and the package variables that the reading takes, are together of bulk at most 1048576: NARROWER than '..Said'. Prove '..Said' where nothing that the law and all that it calls make is longer than what came in: it says more and counts as full. Else prove '..UptoSaid'. A law counts once. -/
mutual
def uptoBulk {H : Type} : DataW H → Nat
  | .lit (.string bytes) => bytes.length + 1
  | .lit _ => 1
  | .nil => 1
  | .ptr d => uptoBulk d + 1
  | .slice elems spare => uptoBulkAll elems + uptoBulkAll spare + 1
  | .agg parts => uptoBulkAll parts + 1
  | .iface _ d => uptoBulk d + 1
  | .map entries => uptoBulkEntries entries + 1
  | .held _ => 1
def uptoBulkAll {H : Type} : List (DataW H) → Nat
  | [] => 0
  | d :: r => uptoBulk d + uptoBulkAll r
def uptoBulkEntries {H : Type} : List (Lit × DataW H) → Nat
  | [] => 0
  | x :: r => uptoBulkEntry x + uptoBulkEntries r
def uptoBulkEntry {H : Type} : Lit × DataW H → Nat
  | (.string bytes, d) => bytes.length + uptoBulk d + 1
  | (_, d) => uptoBulk d + 1
 end
def uptoSmall : (H : Type) → List (DataW H) → Bool := fun _ ds => decide (uptoBulkAll ds ≤ 1048576)
def OpenSpec.upto (s : _root_.Go.ChangeSpec) : _root_.Go.OpenSpec := { _root_.Go.OpenSpec.ofChange s with cond := some uptoSmall }

/-- 'laws.FnLeb', WHERE WHAT IT READS IS OF BULK AT MOST 1048576: true; the input reads as it did. -/
def fnLebUptoRow : OpenClaim := { program := "ytheddnjhkcpmnaa", sum := "66bcf631ef38b88c96c5c7c8d8d492f890cb569540b7c90f7be5454fd1771a38", func := "loop.example/g00745/laws.FnLeb", spec := "fnLeb", apart := false, narrowed := true }
def FnLebUptoSaid : Prop := fnLebUptoRow.holds Try.pinned (OpenSpec.upto fnLebSpec)

/-- 'laws.FnLebLists', WHERE WHAT IT READS IS OF BULK AT MOST 1048576: true; the input reads as it did. -/
def fnLebListsUptoRow : OpenClaim := { program := "ytheddnjhkcpmnaa", sum := "66bcf631ef38b88c96c5c7c8d8d492f890cb569540b7c90f7be5454fd1771a38", func := "loop.example/g00745/laws.FnLebLists", spec := "fnLebLists", inPlace := ["internal/abi.NoEscape"], apart := false, narrowed := true }
def FnLebListsUptoSaid : Prop := fnLebListsUptoRow.holds Try.pinned (OpenSpec.upto fnLebListsSpec)

/-- 'laws.FnProgs', WHERE WHAT IT READS IS OF BULK AT MOST 1048576: true; the input reads as it did. -/
def fnProgsUptoRow : OpenClaim := { program := "ytheddnjhkcpmnaa", sum := "66bcf631ef38b88c96c5c7c8d8d492f890cb569540b7c90f7be5454fd1771a38", func := "loop.example/g00745/laws.FnProgs", spec := "fnProgs", unfollowed := true, recurses := true, apart := false, narrowed := true }
def FnProgsUptoSaid : Prop := fnProgsUptoRow.holds Try.pinned (OpenSpec.upto fnProgsSpec)

/-- 'laws.FnRows', WHERE WHAT IT READS IS OF BULK AT MOST 1048576: true; the input reads as it did. -/
def fnRowsUptoRow : OpenClaim := { program := "ytheddnjhkcpmnaa", sum := "66bcf631ef38b88c96c5c7c8d8d492f890cb569540b7c90f7be5454fd1771a38", func := "loop.example/g00745/laws.FnRows", spec := "fnRows", unfollowed := true, recurses := true, apart := false, narrowed := true }
def FnRowsUptoSaid : Prop := fnRowsUptoRow.holds Try.pinned (OpenSpec.upto fnRowsSpec)

/-- 'laws.FnRowsBytes', WHERE WHAT IT READS IS OF BULK AT MOST 1048576: true; the input reads as it did. -/
def fnRowsBytesUptoRow : OpenClaim := { program := "ytheddnjhkcpmnaa", sum := "66bcf631ef38b88c96c5c7c8d8d492f890cb569540b7c90f7be5454fd1771a38", func := "loop.example/g00745/laws.FnRowsBytes", spec := "fnRowsBytes", recurses := true, apart := false, narrowed := true }
def FnRowsBytesUptoSaid : Prop := fnRowsBytesUptoRow.holds Try.pinned (OpenSpec.upto fnRowsBytesSpec)

end Rows
end Go.Proofs.Ytheddnjhkcpmnaa
