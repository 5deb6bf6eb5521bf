/-
  No cell of these rows narrows 'for every input' (looked for: loops, veiled, ifaces, maps, wideKeys, modest, calm, conditions, laid).
  DERIVED. THE GIVEN ROWS OF THIS SEAT. 12 by the template 'for every input the law returns true; each argument reads behind the call as it read before'; 0 by the template 'total and deterministic' (their statements: YtofhnifbnpoihaaTotals.lean).
  GIVEN WITH THE SEED: the statements are not yours to turn. If you find one false, say at which input.
  Laid BY PROGRAM, IN A SANDBOX (cutbox-rows.mjs): the forced cells as the released guide's own fill.sh prints them over the translation 0de9c5f9c17832d1… (all of the seat's roots in one cut). By AI agents, Wed Nov 11 2026. No macro, syntax, notation, axiom, sorry.
-/
import Derived.Test.YtofhnifbnpoihaaChecked
import GoSem.Claim
import GoSem.ClaimJoined
import GoSem.ClaimMapViews
import Derived.JoinedTies
import Derived.KernelRfl
namespace Go.Proofs.Ytofhnifbnpoihaa
/- THE CELL 'sum', in the pinned program and in every row, IS THE sha256 OF THE DUMP (.gsa) THAT YtofhnifbnpoihaaProg.lean LOADS. Nothing in Lean hashes anything: it is a label: what it is worth is what the hold of that sum in a sandbox is worth. -/
noncomputable def Try.pinned : Pinned := { name := "ytofhnifbnpoihaa", sum := "0de9c5f9c17832d1f22db89beb596b4166a887325499b6a72626670e1eb3cf19", checked := Try.checked }
namespace Rows
def none {H : Type} : Left H := { results := [], args := [] }

/-- 'laws.FnExactConstants': WHATEVER THE INPUT: true; the input reads as it did. -/
def fnExactConstantsSpec : ChangeSpec := { name := "fnExactConstants", fn := fun _ => fun
  | [] => { results := [.lit (.bool true)], args := [] }
  | _ => none }
def fnExactConstantsRow : OpenClaim := { program := "ytofhnifbnpoihaa", sum := "0de9c5f9c17832d1f22db89beb596b4166a887325499b6a72626670e1eb3cf19", func := "loop.example/g00745/laws.FnExactConstants", spec := "fnExactConstants", apart := false }
def FnExactConstantsSaid : Prop := fnExactConstantsRow.holds Try.pinned (OpenSpec.ofChange fnExactConstantsSpec)

/-- ITS FALSE NEIGHBOUR: 'it returns false'. Refute it at one input. -/
def fnExactConstantsWrong : ChangeSpec := { name := "fnExactConstants", fn := fun _ => fun
  | [] => { results := [.lit (.bool false)], args := [] }
  | _ => none }
def FnExactConstantsWrongFalsely : Prop := fnExactConstantsRow.holds Try.pinned (OpenSpec.ofChange fnExactConstantsWrong)

/-- 'laws.FnExactWrapOf': WHATEVER THE INPUT: true; the input reads as it did. -/
def fnExactWrapOfSpec : ChangeSpec := { name := "fnExactWrapOf", fn := fun _ => fun
  | [d] => { results := [.lit (.bool true)], args := [d] }
  | _ => none }
def fnExactWrapOfRow : OpenClaim := { program := "ytofhnifbnpoihaa", sum := "0de9c5f9c17832d1f22db89beb596b4166a887325499b6a72626670e1eb3cf19", func := "loop.example/g00745/laws.FnExactWrapOf", spec := "fnExactWrapOf", apart := false }
def FnExactWrapOfSaid : Prop := fnExactWrapOfRow.holds Try.pinned (OpenSpec.ofChange fnExactWrapOfSpec)

/-- ITS FALSE NEIGHBOUR: 'it returns false'. Refute it at one input. -/
def fnExactWrapOfWrong : ChangeSpec := { name := "fnExactWrapOf", fn := fun _ => fun
  | [d] => { results := [.lit (.bool false)], args := [d] }
  | _ => none }
def FnExactWrapOfWrongFalsely : Prop := fnExactWrapOfRow.holds Try.pinned (OpenSpec.ofChange fnExactWrapOfWrong)

/-- 'laws.FnExactLongU': WHATEVER THE INPUT: true; the input reads as it did. -/
def fnExactLongUSpec : ChangeSpec := { name := "fnExactLongU", fn := fun _ => fun
  | [d] => { results := [.lit (.bool true)], args := [d] }
  | _ => none }
def fnExactLongURow : OpenClaim := { program := "ytofhnifbnpoihaa", sum := "0de9c5f9c17832d1f22db89beb596b4166a887325499b6a72626670e1eb3cf19", func := "loop.example/g00745/laws.FnExactLongU", spec := "fnExactLongU", apart := false }
def FnExactLongUSaid : Prop := fnExactLongURow.holds Try.pinned (OpenSpec.ofChange fnExactLongUSpec)

/-- ITS FALSE NEIGHBOUR: 'it returns false'. Refute it at one input. -/
def fnExactLongUWrong : ChangeSpec := { name := "fnExactLongU", fn := fun _ => fun
  | [d] => { results := [.lit (.bool false)], args := [d] }
  | _ => none }
def FnExactLongUWrongFalsely : Prop := fnExactLongURow.holds Try.pinned (OpenSpec.ofChange fnExactLongUWrong)

/-- 'laws.FnExactPutU': WHATEVER THE INPUT: true; the input reads as it did. -/
def fnExactPutUSpec : ChangeSpec := { name := "fnExactPutU", fn := fun _ => fun
  | [d] => { results := [.lit (.bool true)], args := [d] }
  | _ => none }
def fnExactPutURow : OpenClaim := { program := "ytofhnifbnpoihaa", sum := "0de9c5f9c17832d1f22db89beb596b4166a887325499b6a72626670e1eb3cf19", func := "loop.example/g00745/laws.FnExactPutU", spec := "fnExactPutU", apart := false }
def FnExactPutUSaid : Prop := fnExactPutURow.holds Try.pinned (OpenSpec.ofChange fnExactPutUSpec)

/-- ITS FALSE NEIGHBOUR: 'it returns false'. Refute it at one input. -/
def fnExactPutUWrong : ChangeSpec := { name := "fnExactPutU", fn := fun _ => fun
  | [d] => { results := [.lit (.bool false)], args := [d] }
  | _ => none }
def FnExactPutUWrongFalsely : Prop := fnExactPutURow.holds Try.pinned (OpenSpec.ofChange fnExactPutUWrong)

/-- 'laws.FnExactPutS': WHATEVER THE INPUT: true; the input reads as it did. -/
def fnExactPutSSpec : ChangeSpec := { name := "fnExactPutS", fn := fun _ => fun
  | [d] => { results := [.lit (.bool true)], args := [d] }
  | _ => none }
def fnExactPutSRow : OpenClaim := { program := "ytofhnifbnpoihaa", sum := "0de9c5f9c17832d1f22db89beb596b4166a887325499b6a72626670e1eb3cf19", func := "loop.example/g00745/laws.FnExactPutS", spec := "fnExactPutS", apart := false }
def FnExactPutSSaid : Prop := fnExactPutSRow.holds Try.pinned (OpenSpec.ofChange fnExactPutSSpec)

/-- ITS FALSE NEIGHBOUR: 'it returns false'. Refute it at one input. -/
def fnExactPutSWrong : ChangeSpec := { name := "fnExactPutS", fn := fun _ => fun
  | [d] => { results := [.lit (.bool false)], args := [d] }
  | _ => none }
def FnExactPutSWrongFalsely : Prop := fnExactPutSRow.holds Try.pinned (OpenSpec.ofChange fnExactPutSWrong)

/-- 'laws.FnExactReckon': WHATEVER THE INPUT: true; the input reads as it did. -/
def fnExactReckonSpec : ChangeSpec := { name := "fnExactReckon", fn := fun _ => fun
  | [d1, d2, d3] => { results := [.lit (.bool true)], args := [d1, d2, d3] }
  | _ => none }
def fnExactReckonRow : OpenClaim := { program := "ytofhnifbnpoihaa", sum := "0de9c5f9c17832d1f22db89beb596b4166a887325499b6a72626670e1eb3cf19", func := "loop.example/g00745/laws.FnExactReckon", spec := "fnExactReckon", apart := false }
def FnExactReckonSaid : Prop := fnExactReckonRow.holds Try.pinned (OpenSpec.ofChange fnExactReckonSpec)

/-- ITS FALSE NEIGHBOUR: 'it returns false'. Refute it at one input. -/
def fnExactReckonWrong : ChangeSpec := { name := "fnExactReckon", fn := fun _ => fun
  | [d1, d2, d3] => { results := [.lit (.bool false)], args := [d1, d2, d3] }
  | _ => none }
def FnExactReckonWrongFalsely : Prop := fnExactReckonRow.holds Try.pinned (OpenSpec.ofChange fnExactReckonWrong)

/-- 'laws.FnExactReadU': WHATEVER THE INPUT: true; the input reads as it did. -/
def fnExactReadUSpec : ChangeSpec := { name := "fnExactReadU", fn := fun _ => fun
  | [d1, d2] => { results := [.lit (.bool true)], args := [d1, d2] }
  | _ => none }
def fnExactReadURow : OpenClaim := { program := "ytofhnifbnpoihaa", sum := "0de9c5f9c17832d1f22db89beb596b4166a887325499b6a72626670e1eb3cf19", func := "loop.example/g00745/laws.FnExactReadU", spec := "fnExactReadU", apart := false }
def FnExactReadUSaid : Prop := fnExactReadURow.holds Try.pinned (OpenSpec.ofChange fnExactReadUSpec)

/-- ITS FALSE NEIGHBOUR: 'it returns false'. Refute it at one input. -/
def fnExactReadUWrong : ChangeSpec := { name := "fnExactReadU", fn := fun _ => fun
  | [d1, d2] => { results := [.lit (.bool false)], args := [d1, d2] }
  | _ => none }
def FnExactReadUWrongFalsely : Prop := fnExactReadURow.holds Try.pinned (OpenSpec.ofChange fnExactReadUWrong)

/-- 'laws.FnExactListU': WHATEVER THE INPUT: true; the input reads as it did. -/
def fnExactListUSpec : ChangeSpec := { name := "fnExactListU", fn := fun _ => fun
  | [d] => { results := [.lit (.bool true)], args := [d] }
  | _ => none }
def fnExactListURow : OpenClaim := { program := "ytofhnifbnpoihaa", sum := "0de9c5f9c17832d1f22db89beb596b4166a887325499b6a72626670e1eb3cf19", func := "loop.example/g00745/laws.FnExactListU", spec := "fnExactListU", inPlace := ["internal/abi.NoEscape"], apart := false }
def FnExactListUSaid : Prop := fnExactListURow.holds Try.pinned (OpenSpec.ofChange fnExactListUSpec)

/-- ITS FALSE NEIGHBOUR: 'it returns false'. Refute it at one input. -/
def fnExactListUWrong : ChangeSpec := { name := "fnExactListU", fn := fun _ => fun
  | [d] => { results := [.lit (.bool false)], args := [d] }
  | _ => none }
def FnExactListUWrongFalsely : Prop := fnExactListURow.holds Try.pinned (OpenSpec.ofChange fnExactListUWrong)

/-- 'laws.FnExactReadS': WHATEVER THE INPUT: true; the input reads as it did. -/
def fnExactReadSSpec : ChangeSpec := { name := "fnExactReadS", fn := fun _ => fun
  | [d1, d2] => { results := [.lit (.bool true)], args := [d1, d2] }
  | _ => none }
def fnExactReadSRow : OpenClaim := { program := "ytofhnifbnpoihaa", sum := "0de9c5f9c17832d1f22db89beb596b4166a887325499b6a72626670e1eb3cf19", func := "loop.example/g00745/laws.FnExactReadS", spec := "fnExactReadS", apart := false }
def FnExactReadSSaid : Prop := fnExactReadSRow.holds Try.pinned (OpenSpec.ofChange fnExactReadSSpec)

/-- ITS FALSE NEIGHBOUR: 'it returns false'. Refute it at one input. -/
def fnExactReadSWrong : ChangeSpec := { name := "fnExactReadS", fn := fun _ => fun
  | [d1, d2] => { results := [.lit (.bool false)], args := [d1, d2] }
  | _ => none }
def FnExactReadSWrongFalsely : Prop := fnExactReadSRow.holds Try.pinned (OpenSpec.ofChange fnExactReadSWrong)

/-- 'laws.FnExactReadListU': WHATEVER THE INPUT: true; the input reads as it did. -/
def fnExactReadListUSpec : ChangeSpec := { name := "fnExactReadListU", fn := fun _ => fun
  | [d1, d2] => { results := [.lit (.bool true)], args := [d1, d2] }
  | _ => none }
def fnExactReadListURow : OpenClaim := { program := "ytofhnifbnpoihaa", sum := "0de9c5f9c17832d1f22db89beb596b4166a887325499b6a72626670e1eb3cf19", func := "loop.example/g00745/laws.FnExactReadListU", spec := "fnExactReadListU", apart := false }
def FnExactReadListUSaid : Prop := fnExactReadListURow.holds Try.pinned (OpenSpec.ofChange fnExactReadListUSpec)

/-- ITS FALSE NEIGHBOUR: 'it returns false'. Refute it at one input. -/
def fnExactReadListUWrong : ChangeSpec := { name := "fnExactReadListU", fn := fun _ => fun
  | [d1, d2] => { results := [.lit (.bool false)], args := [d1, d2] }
  | _ => none }
def FnExactReadListUWrongFalsely : Prop := fnExactReadListURow.holds Try.pinned (OpenSpec.ofChange fnExactReadListUWrong)

/-- 'laws.FnLeb': WHATEVER THE INPUT: true; the input reads as it did. -/
def fnLebSpec : ChangeSpec := { name := "fnLeb", fn := fun _ => fun
  | [d1, d2] => { results := [.lit (.bool true)], args := [d1, d2] }
  | _ => none }
def fnLebRow : OpenClaim := { program := "ytofhnifbnpoihaa", sum := "0de9c5f9c17832d1f22db89beb596b4166a887325499b6a72626670e1eb3cf19", func := "loop.example/g00745/laws.FnLeb", spec := "fnLeb", apart := false }
def FnLebSaid : Prop := fnLebRow.holds Try.pinned (OpenSpec.ofChange fnLebSpec)

/-- ITS FALSE NEIGHBOUR: 'it returns false'. Refute it at one input. -/
def fnLebWrong : ChangeSpec := { name := "fnLeb", fn := fun _ => fun
  | [d1, d2] => { results := [.lit (.bool false)], args := [d1, d2] }
  | _ => none }
def FnLebWrongFalsely : Prop := fnLebRow.holds Try.pinned (OpenSpec.ofChange fnLebWrong)

/-- 'laws.FnLebLists': WHATEVER THE INPUT: true; the input reads as it did. -/
def fnLebListsSpec : ChangeSpec := { name := "fnLebLists", fn := fun _ => fun
  | [d1, d2] => { results := [.lit (.bool true)], args := [d1, d2] }
  | _ => none }
def fnLebListsRow : OpenClaim := { program := "ytofhnifbnpoihaa", sum := "0de9c5f9c17832d1f22db89beb596b4166a887325499b6a72626670e1eb3cf19", func := "loop.example/g00745/laws.FnLebLists", spec := "fnLebLists", inPlace := ["internal/abi.NoEscape"], apart := false }
def FnLebListsSaid : Prop := fnLebListsRow.holds Try.pinned (OpenSpec.ofChange fnLebListsSpec)

/-- ITS FALSE NEIGHBOUR: 'it returns false'. Refute it at one input. -/
def fnLebListsWrong : ChangeSpec := { name := "fnLebLists", fn := fun _ => fun
  | [d1, d2] => { results := [.lit (.bool false)], args := [d1, d2] }
  | _ => none }
def FnLebListsWrongFalsely : Prop := fnLebListsRow.holds Try.pinned (OpenSpec.ofChange fnLebListsWrong)

/- THE SECOND FORM. 'bulk': how many values and letters a reading holds, each counted each time it is reached (what is shared counts as often as it is met; a slice's spare places count too). A statement '..UptoSaid' is the law's where the arguments, and the package variables that the reading takes, are together of bulk at most 1048576: NARROWER than '..Said'. Prove '..Said' where nothing that the law and all that it calls make is longer than what came in: it says more and counts as full. Else prove '..UptoSaid'. A law counts once. -/
mutual
def uptoBulk {H : Type} : DataW H → Nat
  | .lit (.string bytes) => bytes.length + 1
  | .lit _ => 1
  | .nil => 1
  | .ptr d => uptoBulk d + 1
  | .slice elems spare => uptoBulkAll elems + uptoBulkAll spare + 1
  | .agg parts => uptoBulkAll parts + 1
  | .iface _ d => uptoBulk d + 1
  | .map entries => uptoBulkEntries entries + 1
  | .held _ => 1
def uptoBulkAll {H : Type} : List (DataW H) → Nat
  | [] => 0
  | d :: r => uptoBulk d + uptoBulkAll r
def uptoBulkEntries {H : Type} : List (Lit × DataW H) → Nat
  | [] => 0
  | x :: r => uptoBulkEntry x + uptoBulkEntries r
def uptoBulkEntry {H : Type} : Lit × DataW H → Nat
  | (.string bytes, d) => bytes.length + uptoBulk d + 1
  | (_, d) => uptoBulk d + 1
 end
def uptoSmall : (H : Type) → List (DataW H) → Bool := fun _ ds => decide (uptoBulkAll ds ≤ 1048576)
def OpenSpec.upto (s : _root_.Go.ChangeSpec) : _root_.Go.OpenSpec := { _root_.Go.OpenSpec.ofChange s with cond := some uptoSmall }

/-- 'laws.FnExactConstants', WHERE WHAT IT READS IS OF BULK AT MOST 1048576: true; the input reads as it did. -/
def fnExactConstantsUptoRow : OpenClaim := { program := "ytofhnifbnpoihaa", sum := "0de9c5f9c17832d1f22db89beb596b4166a887325499b6a72626670e1eb3cf19", func := "loop.example/g00745/laws.FnExactConstants", spec := "fnExactConstants", apart := false, narrowed := true }
def FnExactConstantsUptoSaid : Prop := fnExactConstantsUptoRow.holds Try.pinned (OpenSpec.upto fnExactConstantsSpec)

/-- 'laws.FnExactWrapOf', WHERE WHAT IT READS IS OF BULK AT MOST 1048576: true; the input reads as it did. -/
def fnExactWrapOfUptoRow : OpenClaim := { program := "ytofhnifbnpoihaa", sum := "0de9c5f9c17832d1f22db89beb596b4166a887325499b6a72626670e1eb3cf19", func := "loop.example/g00745/laws.FnExactWrapOf", spec := "fnExactWrapOf", apart := false, narrowed := true }
def FnExactWrapOfUptoSaid : Prop := fnExactWrapOfUptoRow.holds Try.pinned (OpenSpec.upto fnExactWrapOfSpec)

/-- 'laws.FnExactLongU', WHERE WHAT IT READS IS OF BULK AT MOST 1048576: true; the input reads as it did. -/
def fnExactLongUUptoRow : OpenClaim := { program := "ytofhnifbnpoihaa", sum := "0de9c5f9c17832d1f22db89beb596b4166a887325499b6a72626670e1eb3cf19", func := "loop.example/g00745/laws.FnExactLongU", spec := "fnExactLongU", apart := false, narrowed := true }
def FnExactLongUUptoSaid : Prop := fnExactLongUUptoRow.holds Try.pinned (OpenSpec.upto fnExactLongUSpec)

/-- 'laws.FnExactPutU', WHERE WHAT IT READS IS OF BULK AT MOST 1048576: true; the input reads as it did. -/
def fnExactPutUUptoRow : OpenClaim := { program := "ytofhnifbnpoihaa", sum := "0de9c5f9c17832d1f22db89beb596b4166a887325499b6a72626670e1eb3cf19", func := "loop.example/g00745/laws.FnExactPutU", spec := "fnExactPutU", apart := false, narrowed := true }
def FnExactPutUUptoSaid : Prop := fnExactPutUUptoRow.holds Try.pinned (OpenSpec.upto fnExactPutUSpec)

/-- 'laws.FnExactPutS', WHERE WHAT IT READS IS OF BULK AT MOST 1048576: true; the input reads as it did. -/
def fnExactPutSUptoRow : OpenClaim := { program := "ytofhnifbnpoihaa", sum := "0de9c5f9c17832d1f22db89beb596b4166a887325499b6a72626670e1eb3cf19", func := "loop.example/g00745/laws.FnExactPutS", spec := "fnExactPutS", apart := false, narrowed := true }
def FnExactPutSUptoSaid : Prop := fnExactPutSUptoRow.holds Try.pinned (OpenSpec.upto fnExactPutSSpec)

/-- 'laws.FnExactReckon', WHERE WHAT IT READS IS OF BULK AT MOST 1048576: true; the input reads as it did. -/
def fnExactReckonUptoRow : OpenClaim := { program := "ytofhnifbnpoihaa", sum := "0de9c5f9c17832d1f22db89beb596b4166a887325499b6a72626670e1eb3cf19", func := "loop.example/g00745/laws.FnExactReckon", spec := "fnExactReckon", apart := false, narrowed := true }
def FnExactReckonUptoSaid : Prop := fnExactReckonUptoRow.holds Try.pinned (OpenSpec.upto fnExactReckonSpec)

/-- 'laws.FnExactReadU', WHERE WHAT IT READS IS OF BULK AT MOST 1048576: true; the input reads as it did. -/
def fnExactReadUUptoRow : OpenClaim := { program := "ytofhnifbnpoihaa", sum := "0de9c5f9c17832d1f22db89beb596b4166a887325499b6a72626670e1eb3cf19", func := "loop.example/g00745/laws.FnExactReadU", spec := "fnExactReadU", apart := false, narrowed := true }
def FnExactReadUUptoSaid : Prop := fnExactReadUUptoRow.holds Try.pinned (OpenSpec.upto fnExactReadUSpec)

/-- 'laws.FnExactListU', WHERE WHAT IT READS IS OF BULK AT MOST 1048576: true; the input reads as it did. -/
def fnExactListUUptoRow : OpenClaim := { program := "ytofhnifbnpoihaa", sum := "0de9c5f9c17832d1f22db89beb596b4166a887325499b6a72626670e1eb3cf19", func := "loop.example/g00745/laws.FnExactListU", spec := "fnExactListU", inPlace := ["internal/abi.NoEscape"], apart := false, narrowed := true }
def FnExactListUUptoSaid : Prop := fnExactListUUptoRow.holds Try.pinned (OpenSpec.upto fnExactListUSpec)

/-- 'laws.FnExactReadS', WHERE WHAT IT READS IS OF BULK AT MOST 1048576: true; the input reads as it did. -/
def fnExactReadSUptoRow : OpenClaim := { program := "ytofhnifbnpoihaa", sum := "0de9c5f9c17832d1f22db89beb596b4166a887325499b6a72626670e1eb3cf19", func := "loop.example/g00745/laws.FnExactReadS", spec := "fnExactReadS", apart := false, narrowed := true }
def FnExactReadSUptoSaid : Prop := fnExactReadSUptoRow.holds Try.pinned (OpenSpec.upto fnExactReadSSpec)

/-- 'laws.FnExactReadListU', WHERE WHAT IT READS IS OF BULK AT MOST 1048576: true; the input reads as it did. -/
def fnExactReadListUUptoRow : OpenClaim := { program := "ytofhnifbnpoihaa", sum := "0de9c5f9c17832d1f22db89beb596b4166a887325499b6a72626670e1eb3cf19", func := "loop.example/g00745/laws.FnExactReadListU", spec := "fnExactReadListU", apart := false, narrowed := true }
def FnExactReadListUUptoSaid : Prop := fnExactReadListUUptoRow.holds Try.pinned (OpenSpec.upto fnExactReadListUSpec)

/-- 'laws.FnLeb', WHERE WHAT IT READS IS OF BULK AT MOST 1048576: true; the input reads as it did. -/
def fnLebUptoRow : OpenClaim := { program := "ytofhnifbnpoihaa", sum := "0de9c5f9c17832d1f22db89beb596b4166a887325499b6a72626670e1eb3cf19", func := "loop.example/g00745/laws.FnLeb", spec := "fnLeb", apart := false, narrowed := true }
def FnLebUptoSaid : Prop := fnLebUptoRow.holds Try.pinned (OpenSpec.upto fnLebSpec)

/-- 'laws.FnLebLists', WHERE WHAT IT READS IS OF BULK AT MOST 1048576: true; the input reads as it did. -/
def fnLebListsUptoRow : OpenClaim := { program := "ytofhnifbnpoihaa", sum := "0de9c5f9c17832d1f22db89beb596b4166a887325499b6a72626670e1eb3cf19", func := "loop.example/g00745/laws.FnLebLists", spec := "fnLebLists", inPlace := ["internal/abi.NoEscape"], apart := false, narrowed := true }
def FnLebListsUptoSaid : Prop := fnLebListsUptoRow.holds Try.pinned (OpenSpec.upto fnLebListsSpec)

end Rows
end Go.Proofs.Ytofhnifbnpoihaa
