/-
  No cell of these rows narrows 'for every input' (looked for: loops, veiled, ifaces, maps, wideKeys, modest, calm, conditions, laid).
  DERIVED. THE GIVEN ROWS OF THIS SEAT. 11 by the template 'for every input the law returns true; each argument reads behind the call as it read before'; 0 by the template 'total and deterministic' (their statements: YtjkohbbgcfjjoaaTotals.lean).
  GIVEN WITH THE SEED: the statements are not yours to turn. If you find one false, say at which input.
  Laid BY PROGRAM, IN A SANDBOX (cutbox-rows.mjs): the forced cells as the released guide's own fill.sh prints them over the translation d4466e147a7d13f7… (all of the seat's roots in one cut). By AI agents, Wed Nov 11 2026. No macro, syntax, notation, axiom, sorry.
-/
import Derived.Test.YtjkohbbgcfjjoaaChecked
import GoSem.Claim
import GoSem.ClaimJoined
import GoSem.ClaimMapViews
import Derived.JoinedTies
import Derived.KernelRfl
namespace Go.Proofs.Ytjkohbbgcfjjoaa
/- THE CELL 'sum', in the pinned program and in every row, IS THE sha256 OF THE DUMP (.gsa) THAT YtjkohbbgcfjjoaaProg.lean LOADS. Nothing in Lean hashes anything: it is a label: what it is worth is what the hold of that sum in a sandbox is worth. -/
noncomputable def Try.pinned : Pinned := { name := "ytjkohbbgcfjjoaa", sum := "d4466e147a7d13f7e1f8d4916eae88a3753d769426ecf19647e46d28e91ea85d", checked := Try.checked }
namespace Rows
def none {H : Type} : Left H := { results := [], args := [] }

/-- 'laws.FnExactGoodRows': WHATEVER THE INPUT: true; the input reads as it did. -/
def fnExactGoodRowsSpec : ChangeSpec := { name := "fnExactGoodRows", fn := fun _ => fun
  | [d1, d2] => { results := [.lit (.bool true)], args := [d1, d2] }
  | _ => none }
def fnExactGoodRowsRow : OpenClaim := { program := "ytjkohbbgcfjjoaa", sum := "d4466e147a7d13f7e1f8d4916eae88a3753d769426ecf19647e46d28e91ea85d", func := "loop.example/g00745/laws.FnExactGoodRows", spec := "fnExactGoodRows", apart := false }
def FnExactGoodRowsSaid : Prop := fnExactGoodRowsRow.holds Try.pinned (OpenSpec.ofChange fnExactGoodRowsSpec)

/-- ITS FALSE NEIGHBOUR: 'it returns false'. Refute it at one input. -/
def fnExactGoodRowsWrong : ChangeSpec := { name := "fnExactGoodRows", fn := fun _ => fun
  | [d1, d2] => { results := [.lit (.bool false)], args := [d1, d2] }
  | _ => none }
def FnExactGoodRowsWrongFalsely : Prop := fnExactGoodRowsRow.holds Try.pinned (OpenSpec.ofChange fnExactGoodRowsWrong)

/-- 'laws.FnExactSameOutcome': WHATEVER THE INPUT: true; the input reads as it did. -/
def fnExactSameOutcomeSpec : ChangeSpec := { name := "fnExactSameOutcome", fn := fun _ => fun
  | [d1, d2] => { results := [.lit (.bool true)], args := [d1, d2] }
  | _ => none }
def fnExactSameOutcomeRow : OpenClaim := { program := "ytjkohbbgcfjjoaa", sum := "d4466e147a7d13f7e1f8d4916eae88a3753d769426ecf19647e46d28e91ea85d", func := "loop.example/g00745/laws.FnExactSameOutcome", spec := "fnExactSameOutcome", apart := false }
def FnExactSameOutcomeSaid : Prop := fnExactSameOutcomeRow.holds Try.pinned (OpenSpec.ofChange fnExactSameOutcomeSpec)

/-- ITS FALSE NEIGHBOUR: 'it returns false'. Refute it at one input. -/
def fnExactSameOutcomeWrong : ChangeSpec := { name := "fnExactSameOutcome", fn := fun _ => fun
  | [d1, d2] => { results := [.lit (.bool false)], args := [d1, d2] }
  | _ => none }
def FnExactSameOutcomeWrongFalsely : Prop := fnExactSameOutcomeRow.holds Try.pinned (OpenSpec.ofChange fnExactSameOutcomeWrong)

/-- 'laws.FnExactTraceBegins': WHATEVER THE INPUT: true; the input reads as it did. -/
def fnExactTraceBeginsSpec : ChangeSpec := { name := "fnExactTraceBegins", fn := fun _ => fun
  | [d1, d2] => { results := [.lit (.bool true)], args := [d1, d2] }
  | _ => none }
def fnExactTraceBeginsRow : OpenClaim := { program := "ytjkohbbgcfjjoaa", sum := "d4466e147a7d13f7e1f8d4916eae88a3753d769426ecf19647e46d28e91ea85d", func := "loop.example/g00745/laws.FnExactTraceBegins", spec := "fnExactTraceBegins", apart := false }
def FnExactTraceBeginsSaid : Prop := fnExactTraceBeginsRow.holds Try.pinned (OpenSpec.ofChange fnExactTraceBeginsSpec)

/-- ITS FALSE NEIGHBOUR: 'it returns false'. Refute it at one input. -/
def fnExactTraceBeginsWrong : ChangeSpec := { name := "fnExactTraceBegins", fn := fun _ => fun
  | [d1, d2] => { results := [.lit (.bool false)], args := [d1, d2] }
  | _ => none }
def FnExactTraceBeginsWrongFalsely : Prop := fnExactTraceBeginsRow.holds Try.pinned (OpenSpec.ofChange fnExactTraceBeginsWrong)

/-- 'laws.FnExactPadFor': WHATEVER THE INPUT: true; the input reads as it did. -/
def fnExactPadForSpec : ChangeSpec := { name := "fnExactPadFor", fn := fun _ => fun
  | [d1, d2, d3] => { results := [.lit (.bool true)], args := [d1, d2, d3] }
  | _ => none }
def fnExactPadForRow : OpenClaim := { program := "ytjkohbbgcfjjoaa", sum := "d4466e147a7d13f7e1f8d4916eae88a3753d769426ecf19647e46d28e91ea85d", func := "loop.example/g00745/laws.FnExactPadFor", spec := "fnExactPadFor", unfollowed := true, recurses := true, apart := false }
def FnExactPadForSaid : Prop := fnExactPadForRow.holds Try.pinned (OpenSpec.ofChange fnExactPadForSpec)

/-- ITS FALSE NEIGHBOUR: 'it returns false'. Refute it at one input. -/
def fnExactPadForWrong : ChangeSpec := { name := "fnExactPadFor", fn := fun _ => fun
  | [d1, d2, d3] => { results := [.lit (.bool false)], args := [d1, d2, d3] }
  | _ => none }
def FnExactPadForWrongFalsely : Prop := fnExactPadForRow.holds Try.pinned (OpenSpec.ofChange fnExactPadForWrong)

/-- 'laws.FnExactJoinRows': WHATEVER THE INPUT: true; the input reads as it did. -/
def fnExactJoinRowsSpec : ChangeSpec := { name := "fnExactJoinRows", fn := fun _ => fun
  | [d1, d2] => { results := [.lit (.bool true)], args := [d1, d2] }
  | _ => none }
def fnExactJoinRowsRow : OpenClaim := { program := "ytjkohbbgcfjjoaa", sum := "d4466e147a7d13f7e1f8d4916eae88a3753d769426ecf19647e46d28e91ea85d", func := "loop.example/g00745/laws.FnExactJoinRows", spec := "fnExactJoinRows", apart := false }
def FnExactJoinRowsSaid : Prop := fnExactJoinRowsRow.holds Try.pinned (OpenSpec.ofChange fnExactJoinRowsSpec)

/-- ITS FALSE NEIGHBOUR: 'it returns false'. Refute it at one input. -/
def fnExactJoinRowsWrong : ChangeSpec := { name := "fnExactJoinRows", fn := fun _ => fun
  | [d1, d2] => { results := [.lit (.bool false)], args := [d1, d2] }
  | _ => none }
def FnExactJoinRowsWrongFalsely : Prop := fnExactJoinRowsRow.holds Try.pinned (OpenSpec.ofChange fnExactJoinRowsWrong)

/-- 'laws.FnExactRowsBytes': WHATEVER THE INPUT: true; the input reads as it did. -/
def fnExactRowsBytesSpec : ChangeSpec := { name := "fnExactRowsBytes", fn := fun _ => fun
  | [d1, d2] => { results := [.lit (.bool true)], args := [d1, d2] }
  | _ => none }
def fnExactRowsBytesRow : OpenClaim := { program := "ytjkohbbgcfjjoaa", sum := "d4466e147a7d13f7e1f8d4916eae88a3753d769426ecf19647e46d28e91ea85d", func := "loop.example/g00745/laws.FnExactRowsBytes", spec := "fnExactRowsBytes", apart := false }
def FnExactRowsBytesSaid : Prop := fnExactRowsBytesRow.holds Try.pinned (OpenSpec.ofChange fnExactRowsBytesSpec)

/-- ITS FALSE NEIGHBOUR: 'it returns false'. Refute it at one input. -/
def fnExactRowsBytesWrong : ChangeSpec := { name := "fnExactRowsBytes", fn := fun _ => fun
  | [d1, d2] => { results := [.lit (.bool false)], args := [d1, d2] }
  | _ => none }
def FnExactRowsBytesWrongFalsely : Prop := fnExactRowsBytesRow.holds Try.pinned (OpenSpec.ofChange fnExactRowsBytesWrong)

/-- 'laws.FnExactCoverOf': WHATEVER THE INPUT: true; the input reads as it did. -/
def fnExactCoverOfSpec : ChangeSpec := { name := "fnExactCoverOf", fn := fun _ => fun
  | [d1, d2] => { results := [.lit (.bool true)], args := [d1, d2] }
  | _ => none }
def fnExactCoverOfRow : OpenClaim := { program := "ytjkohbbgcfjjoaa", sum := "d4466e147a7d13f7e1f8d4916eae88a3753d769426ecf19647e46d28e91ea85d", func := "loop.example/g00745/laws.FnExactCoverOf", spec := "fnExactCoverOf", unfollowed := true, recurses := true, apart := false }
def FnExactCoverOfSaid : Prop := fnExactCoverOfRow.holds Try.pinned (OpenSpec.ofChange fnExactCoverOfSpec)

/-- ITS FALSE NEIGHBOUR: 'it returns false'. Refute it at one input. -/
def fnExactCoverOfWrong : ChangeSpec := { name := "fnExactCoverOf", fn := fun _ => fun
  | [d1, d2] => { results := [.lit (.bool false)], args := [d1, d2] }
  | _ => none }
def FnExactCoverOfWrongFalsely : Prop := fnExactCoverOfRow.holds Try.pinned (OpenSpec.ofChange fnExactCoverOfWrong)

/-- 'laws.FnExactReadRows': WHATEVER THE INPUT: true; the input reads as it did. -/
def fnExactReadRowsSpec : ChangeSpec := { name := "fnExactReadRows", fn := fun _ => fun
  | [d1, d2] => { results := [.lit (.bool true)], args := [d1, d2] }
  | _ => none }
def fnExactReadRowsRow : OpenClaim := { program := "ytjkohbbgcfjjoaa", sum := "d4466e147a7d13f7e1f8d4916eae88a3753d769426ecf19647e46d28e91ea85d", func := "loop.example/g00745/laws.FnExactReadRows", spec := "fnExactReadRows", apart := false }
def FnExactReadRowsSaid : Prop := fnExactReadRowsRow.holds Try.pinned (OpenSpec.ofChange fnExactReadRowsSpec)

/-- ITS FALSE NEIGHBOUR: 'it returns false'. Refute it at one input. -/
def fnExactReadRowsWrong : ChangeSpec := { name := "fnExactReadRows", fn := fun _ => fun
  | [d1, d2] => { results := [.lit (.bool false)], args := [d1, d2] }
  | _ => none }
def FnExactReadRowsWrongFalsely : Prop := fnExactReadRowsRow.holds Try.pinned (OpenSpec.ofChange fnExactReadRowsWrong)

/-- 'laws.FnExactEndOf': WHATEVER THE INPUT: true; the input reads as it did. -/
def fnExactEndOfSpec : ChangeSpec := { name := "fnExactEndOf", fn := fun _ => fun
  | [d] => { results := [.lit (.bool true)], args := [d] }
  | _ => none }
def fnExactEndOfRow : OpenClaim := { program := "ytjkohbbgcfjjoaa", sum := "d4466e147a7d13f7e1f8d4916eae88a3753d769426ecf19647e46d28e91ea85d", func := "loop.example/g00745/laws.FnExactEndOf", spec := "fnExactEndOf", apart := false }
def FnExactEndOfSaid : Prop := fnExactEndOfRow.holds Try.pinned (OpenSpec.ofChange fnExactEndOfSpec)

/-- ITS FALSE NEIGHBOUR: 'it returns false'. Refute it at one input. -/
def fnExactEndOfWrong : ChangeSpec := { name := "fnExactEndOf", fn := fun _ => fun
  | [d] => { results := [.lit (.bool false)], args := [d] }
  | _ => none }
def FnExactEndOfWrongFalsely : Prop := fnExactEndOfRow.holds Try.pinned (OpenSpec.ofChange fnExactEndOfWrong)

/-- 'laws.FnRows': WHATEVER THE INPUT: true; the input reads as it did. -/
def fnRowsSpec : ChangeSpec := { name := "fnRows", fn := fun _ => fun
  | [d1, d2] => { results := [.lit (.bool true)], args := [d1, d2] }
  | _ => none }
def fnRowsRow : OpenClaim := { program := "ytjkohbbgcfjjoaa", sum := "d4466e147a7d13f7e1f8d4916eae88a3753d769426ecf19647e46d28e91ea85d", func := "loop.example/g00745/laws.FnRows", spec := "fnRows", unfollowed := true, recurses := true, apart := false }
def FnRowsSaid : Prop := fnRowsRow.holds Try.pinned (OpenSpec.ofChange fnRowsSpec)

/-- ITS FALSE NEIGHBOUR: 'it returns false'. Refute it at one input. -/
def fnRowsWrong : ChangeSpec := { name := "fnRows", fn := fun _ => fun
  | [d1, d2] => { results := [.lit (.bool false)], args := [d1, d2] }
  | _ => none }
def FnRowsWrongFalsely : Prop := fnRowsRow.holds Try.pinned (OpenSpec.ofChange fnRowsWrong)

/-- 'laws.FnRowsBytes': WHATEVER THE INPUT: true; the input reads as it did. -/
def fnRowsBytesSpec : ChangeSpec := { name := "fnRowsBytes", fn := fun _ => fun
  | [d1, d2] => { results := [.lit (.bool true)], args := [d1, d2] }
  | _ => none }
def fnRowsBytesRow : OpenClaim := { program := "ytjkohbbgcfjjoaa", sum := "d4466e147a7d13f7e1f8d4916eae88a3753d769426ecf19647e46d28e91ea85d", func := "loop.example/g00745/laws.FnRowsBytes", spec := "fnRowsBytes", recurses := true, apart := false }
def FnRowsBytesSaid : Prop := fnRowsBytesRow.holds Try.pinned (OpenSpec.ofChange fnRowsBytesSpec)

/-- ITS FALSE NEIGHBOUR: 'it returns false'. Refute it at one input. -/
def fnRowsBytesWrong : ChangeSpec := { name := "fnRowsBytes", fn := fun _ => fun
  | [d1, d2] => { results := [.lit (.bool false)], args := [d1, d2] }
  | _ => none }
def FnRowsBytesWrongFalsely : Prop := fnRowsBytesRow.holds Try.pinned (OpenSpec.ofChange fnRowsBytesWrong)

/- THE SECOND FORM. 'bulk': how many values and letters a reading holds, each counted each time it is reached (what is shared counts as often as it is met; a slice's spare places count too). A statement '..UptoSaid' is the law's where the arguments, and the package variables that the reading takes, are together of bulk at most 1048576: NARROWER than '..Said'. Prove '..Said' where nothing that the law and all that it calls make is longer than what came in: it says more and counts as full. Else prove '..UptoSaid'. A law counts once. -/
mutual
def uptoBulk {H : Type} : DataW H → Nat
  | .lit (.string bytes) => bytes.length + 1
  | .lit _ => 1
  | .nil => 1
  | .ptr d => uptoBulk d + 1
  | .slice elems spare => uptoBulkAll elems + uptoBulkAll spare + 1
  | .agg parts => uptoBulkAll parts + 1
  | .iface _ d => uptoBulk d + 1
  | .map entries => uptoBulkEntries entries + 1
  | .held _ => 1
def uptoBulkAll {H : Type} : List (DataW H) → Nat
  | [] => 0
  | d :: r => uptoBulk d + uptoBulkAll r
def uptoBulkEntries {H : Type} : List (Lit × DataW H) → Nat
  | [] => 0
  | x :: r => uptoBulkEntry x + uptoBulkEntries r
def uptoBulkEntry {H : Type} : Lit × DataW H → Nat
  | (.string bytes, d) => bytes.length + uptoBulk d + 1
  | (_, d) => uptoBulk d + 1
 end
def uptoSmall : (H : Type) → List (DataW H) → Bool := fun _ ds => decide (uptoBulkAll ds ≤ 1048576)
def OpenSpec.upto (s : _root_.Go.ChangeSpec) : _root_.Go.OpenSpec := { _root_.Go.OpenSpec.ofChange s with cond := some uptoSmall }

/-- 'laws.FnExactGoodRows', WHERE WHAT IT READS IS OF BULK AT MOST 1048576: true; the input reads as it did. -/
def fnExactGoodRowsUptoRow : OpenClaim := { program := "ytjkohbbgcfjjoaa", sum := "d4466e147a7d13f7e1f8d4916eae88a3753d769426ecf19647e46d28e91ea85d", func := "loop.example/g00745/laws.FnExactGoodRows", spec := "fnExactGoodRows", apart := false, narrowed := true }
def FnExactGoodRowsUptoSaid : Prop := fnExactGoodRowsUptoRow.holds Try.pinned (OpenSpec.upto fnExactGoodRowsSpec)

/-- 'laws.FnExactSameOutcome', WHERE WHAT IT READS IS OF BULK AT MOST 1048576: true; the input reads as it did. -/
def fnExactSameOutcomeUptoRow : OpenClaim := { program := "ytjkohbbgcfjjoaa", sum := "d4466e147a7d13f7e1f8d4916eae88a3753d769426ecf19647e46d28e91ea85d", func := "loop.example/g00745/laws.FnExactSameOutcome", spec := "fnExactSameOutcome", apart := false, narrowed := true }
def FnExactSameOutcomeUptoSaid : Prop := fnExactSameOutcomeUptoRow.holds Try.pinned (OpenSpec.upto fnExactSameOutcomeSpec)

/-- 'laws.FnExactTraceBegins', WHERE WHAT IT READS IS OF BULK AT MOST 1048576: true; the input reads as it did. -/
def fnExactTraceBeginsUptoRow : OpenClaim := { program := "ytjkohbbgcfjjoaa", sum := "d4466e147a7d13f7e1f8d4916eae88a3753d769426ecf19647e46d28e91ea85d", func := "loop.example/g00745/laws.FnExactTraceBegins", spec := "fnExactTraceBegins", apart := false, narrowed := true }
def FnExactTraceBeginsUptoSaid : Prop := fnExactTraceBeginsUptoRow.holds Try.pinned (OpenSpec.upto fnExactTraceBeginsSpec)

/-- 'laws.FnExactPadFor', WHERE WHAT IT READS IS OF BULK AT MOST 1048576: true; the input reads as it did. -/
def fnExactPadForUptoRow : OpenClaim := { program := "ytjkohbbgcfjjoaa", sum := "d4466e147a7d13f7e1f8d4916eae88a3753d769426ecf19647e46d28e91ea85d", func := "loop.example/g00745/laws.FnExactPadFor", spec := "fnExactPadFor", unfollowed := true, recurses := true, apart := false, narrowed := true }
def FnExactPadForUptoSaid : Prop := fnExactPadForUptoRow.holds Try.pinned (OpenSpec.upto fnExactPadForSpec)

/-- 'laws.FnExactJoinRows', WHERE WHAT IT READS IS OF BULK AT MOST 1048576: true; the input reads as it did. -/
def fnExactJoinRowsUptoRow : OpenClaim := { program := "ytjkohbbgcfjjoaa", sum := "d4466e147a7d13f7e1f8d4916eae88a3753d769426ecf19647e46d28e91ea85d", func := "loop.example/g00745/laws.FnExactJoinRows", spec := "fnExactJoinRows", apart := false, narrowed := true }
def FnExactJoinRowsUptoSaid : Prop := fnExactJoinRowsUptoRow.holds Try.pinned (OpenSpec.upto fnExactJoinRowsSpec)

/-- 'laws.FnExactRowsBytes', WHERE WHAT IT READS IS OF BULK AT MOST 1048576: true; the input reads as it did. -/
def fnExactRowsBytesUptoRow : OpenClaim := { program := "ytjkohbbgcfjjoaa", sum := "d4466e147a7d13f7e1f8d4916eae88a3753d769426ecf19647e46d28e91ea85d", func := "loop.example/g00745/laws.FnExactRowsBytes", spec := "fnExactRowsBytes", apart := false, narrowed := true }
def FnExactRowsBytesUptoSaid : Prop := fnExactRowsBytesUptoRow.holds Try.pinned (OpenSpec.upto fnExactRowsBytesSpec)

/-- 'laws.FnExactCoverOf', WHERE WHAT IT READS IS OF BULK AT MOST 1048576: true; the input reads as it did. -/
def fnExactCoverOfUptoRow : OpenClaim := { program := "ytjkohbbgcfjjoaa", sum := "d4466e147a7d13f7e1f8d4916eae88a3753d769426ecf19647e46d28e91ea85d", func := "loop.example/g00745/laws.FnExactCoverOf", spec := "fnExactCoverOf", unfollowed := true, recurses := true, apart := false, narrowed := true }
def FnExactCoverOfUptoSaid : Prop := fnExactCoverOfUptoRow.holds Try.pinned (OpenSpec.upto fnExactCoverOfSpec)

/-- 'laws.FnExactReadRows', WHERE WHAT IT READS IS OF BULK AT MOST 1048576: true; the input reads as it did. -/
def fnExactReadRowsUptoRow : OpenClaim := { program := "ytjkohbbgcfjjoaa", sum := "d4466e147a7d13f7e1f8d4916eae88a3753d769426ecf19647e46d28e91ea85d", func := "loop.example/g00745/laws.FnExactReadRows", spec := "fnExactReadRows", apart := false, narrowed := true }
def FnExactReadRowsUptoSaid : Prop := fnExactReadRowsUptoRow.holds Try.pinned (OpenSpec.upto fnExactReadRowsSpec)

/-- 'laws.FnExactEndOf', WHERE WHAT IT READS IS OF BULK AT MOST 1048576: true; the input reads as it did. -/
def fnExactEndOfUptoRow : OpenClaim := { program := "ytjkohbbgcfjjoaa", sum := "d4466e147a7d13f7e1f8d4916eae88a3753d769426ecf19647e46d28e91ea85d", func := "loop.example/g00745/laws.FnExactEndOf", spec := "fnExactEndOf", apart := false, narrowed := true }
def FnExactEndOfUptoSaid : Prop := fnExactEndOfUptoRow.holds Try.pinned (OpenSpec.upto fnExactEndOfSpec)

/-- 'laws.FnRows', WHERE WHAT IT READS IS OF BULK AT MOST 1048576: true; the input reads as it did. -/
def fnRowsUptoRow : OpenClaim := { program := "ytjkohbbgcfjjoaa", sum := "d4466e147a7d13f7e1f8d4916eae88a3753d769426ecf19647e46d28e91ea85d", func := "loop.example/g00745/laws.FnRows", spec := "fnRows", unfollowed := true, recurses := true, apart := false, narrowed := true }
def FnRowsUptoSaid : Prop := fnRowsUptoRow.holds Try.pinned (OpenSpec.upto fnRowsSpec)

/-- 'laws.FnRowsBytes', WHERE WHAT IT READS IS OF BULK AT MOST 1048576: true; the input reads as it did. -/
def fnRowsBytesUptoRow : OpenClaim := { program := "ytjkohbbgcfjjoaa", sum := "d4466e147a7d13f7e1f8d4916eae88a3753d769426ecf19647e46d28e91ea85d", func := "loop.example/g00745/laws.FnRowsBytes", spec := "fnRowsBytes", recurses := true, apart := false, narrowed := true }
def FnRowsBytesUptoSaid : Prop := fnRowsBytesUptoRow.holds Try.pinned (OpenSpec.upto fnRowsBytesSpec)

end Rows
end Go.Proofs.Ytjkohbbgcfjjoaa
