/-
  No cell of these rows narrows 'for every input' (looked for: loops, veiled, ifaces, maps, wideKeys, modest, calm, conditions, laid).
  DERIVED. THE GIVEN ROWS OF THIS SEAT. 8 by the template 'for every input the law returns true; each argument reads behind the call as it read before'; 0 by the template 'total and deterministic' (their statements: YtgcbjphbeifbkaaTotals.lean).
  GIVEN WITH THE SEED: the statements are not yours to turn. If you find one false, say at which input.
  Laid BY PROGRAM, IN A SANDBOX (cutbox-rows.mjs): the forced cells as the released guide's own fill.sh prints them over the translation 541daf519770c31a… (all of the seat's roots in one cut). By AI agents, Wed Nov 11 2026. No macro, syntax, notation, axiom, sorry.
-/
import Derived.Test.YtgcbjphbeifbkaaChecked
import GoSem.Claim
import GoSem.ClaimJoined
import GoSem.ClaimMapViews
import Derived.JoinedTies
import Derived.KernelRfl
namespace Go.Proofs.Ytgcbjphbeifbkaa
/- THE CELL 'sum', in the pinned program and in every row, IS THE sha256 OF THE DUMP (.gsa) THAT YtgcbjphbeifbkaaProg.lean LOADS. Nothing in Lean hashes anything: it is a label: what it is worth is what the hold of that sum in a sandbox is worth. -/
noncomputable def Try.pinned : Pinned := { name := "ytgcbjphbeifbkaa", sum := "541daf519770c31a2b58e7754ca8eebf74fda991af0cdf00e60207884e28e5a4", checked := Try.checked }
namespace Rows
def none {H : Type} : Left H := { results := [], args := [] }

/-- 'laws.FnExactNeedsOf': WHATEVER THE INPUT: true; the input reads as it did. -/
def fnExactNeedsOfSpec : ChangeSpec := { name := "fnExactNeedsOf", fn := fun _ => fun
  | [d1, d2] => { results := [.lit (.bool true)], args := [d1, d2] }
  | _ => none }
def fnExactNeedsOfRow : OpenClaim := { program := "ytgcbjphbeifbkaa", sum := "541daf519770c31a2b58e7754ca8eebf74fda991af0cdf00e60207884e28e5a4", func := "loop.example/g00745/laws.FnExactNeedsOf", spec := "fnExactNeedsOf", unfollowed := true, recurses := true, apart := false }
def FnExactNeedsOfSaid : Prop := fnExactNeedsOfRow.holds Try.pinned (OpenSpec.ofChange fnExactNeedsOfSpec)

/-- ITS FALSE NEIGHBOUR: 'it returns false'. Refute it at one input. -/
def fnExactNeedsOfWrong : ChangeSpec := { name := "fnExactNeedsOf", fn := fun _ => fun
  | [d1, d2] => { results := [.lit (.bool false)], args := [d1, d2] }
  | _ => none }
def FnExactNeedsOfWrongFalsely : Prop := fnExactNeedsOfRow.holds Try.pinned (OpenSpec.ofChange fnExactNeedsOfWrong)

/-- 'laws.FnExactGoodExpr': WHATEVER THE INPUT: true; the input reads as it did. -/
def fnExactGoodExprSpec : ChangeSpec := { name := "fnExactGoodExpr", fn := fun _ => fun
  | [d1, d2, d3] => { results := [.lit (.bool true)], args := [d1, d2, d3] }
  | _ => none }
def fnExactGoodExprRow : OpenClaim := { program := "ytgcbjphbeifbkaa", sum := "541daf519770c31a2b58e7754ca8eebf74fda991af0cdf00e60207884e28e5a4", func := "loop.example/g00745/laws.FnExactGoodExpr", spec := "fnExactGoodExpr", unfollowed := true, recurses := true, apart := false }
def FnExactGoodExprSaid : Prop := fnExactGoodExprRow.holds Try.pinned (OpenSpec.ofChange fnExactGoodExprSpec)

/-- ITS FALSE NEIGHBOUR: 'it returns false'. Refute it at one input. -/
def fnExactGoodExprWrong : ChangeSpec := { name := "fnExactGoodExpr", fn := fun _ => fun
  | [d1, d2, d3] => { results := [.lit (.bool false)], args := [d1, d2, d3] }
  | _ => none }
def FnExactGoodExprWrongFalsely : Prop := fnExactGoodExprRow.holds Try.pinned (OpenSpec.ofChange fnExactGoodExprWrong)

/-- 'laws.FnExactHighOf': WHATEVER THE INPUT: true; the input reads as it did. -/
def fnExactHighOfSpec : ChangeSpec := { name := "fnExactHighOf", fn := fun _ => fun
  | [d1, d2] => { results := [.lit (.bool true)], args := [d1, d2] }
  | _ => none }
def fnExactHighOfRow : OpenClaim := { program := "ytgcbjphbeifbkaa", sum := "541daf519770c31a2b58e7754ca8eebf74fda991af0cdf00e60207884e28e5a4", func := "loop.example/g00745/laws.FnExactHighOf", spec := "fnExactHighOf", unfollowed := true, recurses := true, apart := false }
def FnExactHighOfSaid : Prop := fnExactHighOfRow.holds Try.pinned (OpenSpec.ofChange fnExactHighOfSpec)

/-- ITS FALSE NEIGHBOUR: 'it returns false'. Refute it at one input. -/
def fnExactHighOfWrong : ChangeSpec := { name := "fnExactHighOf", fn := fun _ => fun
  | [d1, d2] => { results := [.lit (.bool false)], args := [d1, d2] }
  | _ => none }
def FnExactHighOfWrongFalsely : Prop := fnExactHighOfRow.holds Try.pinned (OpenSpec.ofChange fnExactHighOfWrong)

/-- 'laws.FnExactEvalPure': WHATEVER THE INPUT: true; the input reads as it did. -/
def fnExactEvalPureSpec : ChangeSpec := { name := "fnExactEvalPure", fn := fun _ => fun
  | [d1, d2] => { results := [.lit (.bool true)], args := [d1, d2] }
  | _ => none }
def fnExactEvalPureRow : OpenClaim := { program := "ytgcbjphbeifbkaa", sum := "541daf519770c31a2b58e7754ca8eebf74fda991af0cdf00e60207884e28e5a4", func := "loop.example/g00745/laws.FnExactEvalPure", spec := "fnExactEvalPure", unfollowed := true, recurses := true, apart := false }
def FnExactEvalPureSaid : Prop := fnExactEvalPureRow.holds Try.pinned (OpenSpec.ofChange fnExactEvalPureSpec)

/-- ITS FALSE NEIGHBOUR: 'it returns false'. Refute it at one input. -/
def fnExactEvalPureWrong : ChangeSpec := { name := "fnExactEvalPure", fn := fun _ => fun
  | [d1, d2] => { results := [.lit (.bool false)], args := [d1, d2] }
  | _ => none }
def FnExactEvalPureWrongFalsely : Prop := fnExactEvalPureRow.holds Try.pinned (OpenSpec.ofChange fnExactEvalPureWrong)

/-- 'laws.FnExactLowerExpr': WHATEVER THE INPUT: true; the input reads as it did. -/
def fnExactLowerExprSpec : ChangeSpec := { name := "fnExactLowerExpr", fn := fun _ => fun
  | [d] => { results := [.lit (.bool true)], args := [d] }
  | _ => none }
def fnExactLowerExprRow : OpenClaim := { program := "ytgcbjphbeifbkaa", sum := "541daf519770c31a2b58e7754ca8eebf74fda991af0cdf00e60207884e28e5a4", func := "loop.example/g00745/laws.FnExactLowerExpr", spec := "fnExactLowerExpr", unfollowed := true, recurses := true, apart := false }
def FnExactLowerExprSaid : Prop := fnExactLowerExprRow.holds Try.pinned (OpenSpec.ofChange fnExactLowerExprSpec)

/-- ITS FALSE NEIGHBOUR: 'it returns false'. Refute it at one input. -/
def fnExactLowerExprWrong : ChangeSpec := { name := "fnExactLowerExpr", fn := fun _ => fun
  | [d] => { results := [.lit (.bool false)], args := [d] }
  | _ => none }
def FnExactLowerExprWrongFalsely : Prop := fnExactLowerExprRow.holds Try.pinned (OpenSpec.ofChange fnExactLowerExprWrong)

/-- 'laws.FnExactPadOf': WHATEVER THE INPUT: true; the input reads as it did. -/
def fnExactPadOfSpec : ChangeSpec := { name := "fnExactPadOf", fn := fun _ => fun
  | [d] => { results := [.lit (.bool true)], args := [d] }
  | _ => none }
def fnExactPadOfRow : OpenClaim := { program := "ytgcbjphbeifbkaa", sum := "541daf519770c31a2b58e7754ca8eebf74fda991af0cdf00e60207884e28e5a4", func := "loop.example/g00745/laws.FnExactPadOf", spec := "fnExactPadOf", apart := false }
def FnExactPadOfSaid : Prop := fnExactPadOfRow.holds Try.pinned (OpenSpec.ofChange fnExactPadOfSpec)

/-- ITS FALSE NEIGHBOUR: 'it returns false'. Refute it at one input. -/
def fnExactPadOfWrong : ChangeSpec := { name := "fnExactPadOf", fn := fun _ => fun
  | [d] => { results := [.lit (.bool false)], args := [d] }
  | _ => none }
def FnExactPadOfWrongFalsely : Prop := fnExactPadOfRow.holds Try.pinned (OpenSpec.ofChange fnExactPadOfWrong)

/-- 'laws.FnExactTakesPuts': WHATEVER THE INPUT: true; the input reads as it did. -/
def fnExactTakesPutsSpec : ChangeSpec := { name := "fnExactTakesPuts", fn := fun _ => fun
  | [d1, d2] => { results := [.lit (.bool true)], args := [d1, d2] }
  | _ => none }
def fnExactTakesPutsRow : OpenClaim := { program := "ytgcbjphbeifbkaa", sum := "541daf519770c31a2b58e7754ca8eebf74fda991af0cdf00e60207884e28e5a4", func := "loop.example/g00745/laws.FnExactTakesPuts", spec := "fnExactTakesPuts", unfollowed := true, recurses := true, apart := false }
def FnExactTakesPutsSaid : Prop := fnExactTakesPutsRow.holds Try.pinned (OpenSpec.ofChange fnExactTakesPutsSpec)

/-- ITS FALSE NEIGHBOUR: 'it returns false'. Refute it at one input. -/
def fnExactTakesPutsWrong : ChangeSpec := { name := "fnExactTakesPuts", fn := fun _ => fun
  | [d1, d2] => { results := [.lit (.bool false)], args := [d1, d2] }
  | _ => none }
def FnExactTakesPutsWrongFalsely : Prop := fnExactTakesPutsRow.holds Try.pinned (OpenSpec.ofChange fnExactTakesPutsWrong)

/-- 'laws.FnExactNextOf': WHATEVER THE INPUT: true; the input reads as it did. -/
def fnExactNextOfSpec : ChangeSpec := { name := "fnExactNextOf", fn := fun _ => fun
  | [d1, d2] => { results := [.lit (.bool true)], args := [d1, d2] }
  | _ => none }
def fnExactNextOfRow : OpenClaim := { program := "ytgcbjphbeifbkaa", sum := "541daf519770c31a2b58e7754ca8eebf74fda991af0cdf00e60207884e28e5a4", func := "loop.example/g00745/laws.FnExactNextOf", spec := "fnExactNextOf", recurses := true, apart := false }
def FnExactNextOfSaid : Prop := fnExactNextOfRow.holds Try.pinned (OpenSpec.ofChange fnExactNextOfSpec)

/-- ITS FALSE NEIGHBOUR: 'it returns false'. Refute it at one input. -/
def fnExactNextOfWrong : ChangeSpec := { name := "fnExactNextOf", fn := fun _ => fun
  | [d1, d2] => { results := [.lit (.bool false)], args := [d1, d2] }
  | _ => none }
def FnExactNextOfWrongFalsely : Prop := fnExactNextOfRow.holds Try.pinned (OpenSpec.ofChange fnExactNextOfWrong)

/- THE SECOND FORM. 'bulk': how many values and letters a reading holds, each counted each time it is reached (what is shared counts as often as it is met; a slice's spare places count too). A statement '..UptoSaid' is the law's where the arguments, and the package variables that the reading takes, are together of bulk at most 1048576: NARROWER than '..Said'. Prove '..Said' where nothing that the law and all that it calls make is longer than what came in: it says more and counts as full. Else prove '..UptoSaid'. A law counts once. -/
mutual
def uptoBulk {H : Type} : DataW H → Nat
  | .lit (.string bytes) => bytes.length + 1
  | .lit _ => 1
  | .nil => 1
  | .ptr d => uptoBulk d + 1
  | .slice elems spare => uptoBulkAll elems + uptoBulkAll spare + 1
  | .agg parts => uptoBulkAll parts + 1
  | .iface _ d => uptoBulk d + 1
  | .map entries => uptoBulkEntries entries + 1
  | .held _ => 1
def uptoBulkAll {H : Type} : List (DataW H) → Nat
  | [] => 0
  | d :: r => uptoBulk d + uptoBulkAll r
def uptoBulkEntries {H : Type} : List (Lit × DataW H) → Nat
  | [] => 0
  | x :: r => uptoBulkEntry x + uptoBulkEntries r
def uptoBulkEntry {H : Type} : Lit × DataW H → Nat
  | (.string bytes, d) => bytes.length + uptoBulk d + 1
  | (_, d) => uptoBulk d + 1
 end
def uptoSmall : (H : Type) → List (DataW H) → Bool := fun _ ds => decide (uptoBulkAll ds ≤ 1048576)
def OpenSpec.upto (s : _root_.Go.ChangeSpec) : _root_.Go.OpenSpec := { _root_.Go.OpenSpec.ofChange s with cond := some uptoSmall }

/-- 'laws.FnExactNeedsOf', WHERE WHAT IT READS IS OF BULK AT MOST 1048576: true; the input reads as it did. -/
def fnExactNeedsOfUptoRow : OpenClaim := { program := "ytgcbjphbeifbkaa", sum := "541daf519770c31a2b58e7754ca8eebf74fda991af0cdf00e60207884e28e5a4", func := "loop.example/g00745/laws.FnExactNeedsOf", spec := "fnExactNeedsOf", unfollowed := true, recurses := true, apart := false, narrowed := true }
def FnExactNeedsOfUptoSaid : Prop := fnExactNeedsOfUptoRow.holds Try.pinned (OpenSpec.upto fnExactNeedsOfSpec)

/-- 'laws.FnExactGoodExpr', WHERE WHAT IT READS IS OF BULK AT MOST 1048576: true; the input reads as it did. -/
def fnExactGoodExprUptoRow : OpenClaim := { program := "ytgcbjphbeifbkaa", sum := "541daf519770c31a2b58e7754ca8eebf74fda991af0cdf00e60207884e28e5a4", func := "loop.example/g00745/laws.FnExactGoodExpr", spec := "fnExactGoodExpr", unfollowed := true, recurses := true, apart := false, narrowed := true }
def FnExactGoodExprUptoSaid : Prop := fnExactGoodExprUptoRow.holds Try.pinned (OpenSpec.upto fnExactGoodExprSpec)

/-- 'laws.FnExactHighOf', WHERE WHAT IT READS IS OF BULK AT MOST 1048576: true; the input reads as it did. -/
def fnExactHighOfUptoRow : OpenClaim := { program := "ytgcbjphbeifbkaa", sum := "541daf519770c31a2b58e7754ca8eebf74fda991af0cdf00e60207884e28e5a4", func := "loop.example/g00745/laws.FnExactHighOf", spec := "fnExactHighOf", unfollowed := true, recurses := true, apart := false, narrowed := true }
def FnExactHighOfUptoSaid : Prop := fnExactHighOfUptoRow.holds Try.pinned (OpenSpec.upto fnExactHighOfSpec)

/-- 'laws.FnExactEvalPure', WHERE WHAT IT READS IS OF BULK AT MOST 1048576: true; the input reads as it did. -/
def fnExactEvalPureUptoRow : OpenClaim := { program := "ytgcbjphbeifbkaa", sum := "541daf519770c31a2b58e7754ca8eebf74fda991af0cdf00e60207884e28e5a4", func := "loop.example/g00745/laws.FnExactEvalPure", spec := "fnExactEvalPure", unfollowed := true, recurses := true, apart := false, narrowed := true }
def FnExactEvalPureUptoSaid : Prop := fnExactEvalPureUptoRow.holds Try.pinned (OpenSpec.upto fnExactEvalPureSpec)

/-- 'laws.FnExactLowerExpr', WHERE WHAT IT READS IS OF BULK AT MOST 1048576: true; the input reads as it did. -/
def fnExactLowerExprUptoRow : OpenClaim := { program := "ytgcbjphbeifbkaa", sum := "541daf519770c31a2b58e7754ca8eebf74fda991af0cdf00e60207884e28e5a4", func := "loop.example/g00745/laws.FnExactLowerExpr", spec := "fnExactLowerExpr", unfollowed := true, recurses := true, apart := false, narrowed := true }
def FnExactLowerExprUptoSaid : Prop := fnExactLowerExprUptoRow.holds Try.pinned (OpenSpec.upto fnExactLowerExprSpec)

/-- 'laws.FnExactPadOf', WHERE WHAT IT READS IS OF BULK AT MOST 1048576: true; the input reads as it did. -/
def fnExactPadOfUptoRow : OpenClaim := { program := "ytgcbjphbeifbkaa", sum := "541daf519770c31a2b58e7754ca8eebf74fda991af0cdf00e60207884e28e5a4", func := "loop.example/g00745/laws.FnExactPadOf", spec := "fnExactPadOf", apart := false, narrowed := true }
def FnExactPadOfUptoSaid : Prop := fnExactPadOfUptoRow.holds Try.pinned (OpenSpec.upto fnExactPadOfSpec)

/-- 'laws.FnExactTakesPuts', WHERE WHAT IT READS IS OF BULK AT MOST 1048576: true; the input reads as it did. -/
def fnExactTakesPutsUptoRow : OpenClaim := { program := "ytgcbjphbeifbkaa", sum := "541daf519770c31a2b58e7754ca8eebf74fda991af0cdf00e60207884e28e5a4", func := "loop.example/g00745/laws.FnExactTakesPuts", spec := "fnExactTakesPuts", unfollowed := true, recurses := true, apart := false, narrowed := true }
def FnExactTakesPutsUptoSaid : Prop := fnExactTakesPutsUptoRow.holds Try.pinned (OpenSpec.upto fnExactTakesPutsSpec)

/-- 'laws.FnExactNextOf', WHERE WHAT IT READS IS OF BULK AT MOST 1048576: true; the input reads as it did. -/
def fnExactNextOfUptoRow : OpenClaim := { program := "ytgcbjphbeifbkaa", sum := "541daf519770c31a2b58e7754ca8eebf74fda991af0cdf00e60207884e28e5a4", func := "loop.example/g00745/laws.FnExactNextOf", spec := "fnExactNextOf", recurses := true, apart := false, narrowed := true }
def FnExactNextOfUptoSaid : Prop := fnExactNextOfUptoRow.holds Try.pinned (OpenSpec.upto fnExactNextOfSpec)

end Rows
end Go.Proofs.Ytgcbjphbeifbkaa
