/-
  No cell of these rows narrows 'for every input' (looked for: loops, veiled, ifaces, maps, wideKeys, modest, calm, conditions, laid).
  DERIVED. THE GIVEN ROWS OF THIS SEAT. 8 by the template 'for every input the law returns true; each argument reads behind the call as it read before'; 0 by the template 'total and deterministic' (their statements: YtdniplnggikkgaaTotals.lean).
  GIVEN WITH THE SEED: the statements are not yours to turn. If you find one false, say at which input.
  Laid BY PROGRAM, IN A SANDBOX (cutbox-rows.mjs): the forced cells as the released guide's own fill.sh prints them over the translation 0ea0302e29abd683… (all of the seat's roots in one cut). By AI agents, Wed Nov 11 2026. No macro, syntax, notation, axiom, sorry.
-/
import Derived.Test.YtdniplnggikkgaaChecked
import GoSem.Claim
import GoSem.ClaimJoined
import GoSem.ClaimMapViews
import Derived.JoinedTies
import Derived.KernelRfl
namespace Go.Proofs.Ytdniplnggikkgaa
/- THE CELL 'sum', in the pinned program and in every row, IS THE sha256 OF THE DUMP (.gsa) THAT YtdniplnggikkgaaProg.lean LOADS. Nothing in Lean hashes anything: it is a label: what it is worth is what the hold of that sum in a sandbox is worth. -/
noncomputable def Try.pinned : Pinned := { name := "ytdniplnggikkgaa", sum := "0ea0302e29abd683b06a98b4b2780561414887601ef2495d90fbe7da416d6abc", checked := Try.checked }
namespace Rows
def none {H : Type} : Left H := { results := [], args := [] }

/-- 'laws.FnExactGoodProg': WHATEVER THE INPUT: true; the input reads as it did. -/
def fnExactGoodProgSpec : ChangeSpec := { name := "fnExactGoodProg", fn := fun _ => fun
  | [d] => { results := [.lit (.bool true)], args := [d] }
  | _ => none }
def fnExactGoodProgRow : OpenClaim := { program := "ytdniplnggikkgaa", sum := "0ea0302e29abd683b06a98b4b2780561414887601ef2495d90fbe7da416d6abc", func := "loop.example/g00745/laws.FnExactGoodProg", spec := "fnExactGoodProg", unfollowed := true, recurses := true, apart := false }
def FnExactGoodProgSaid : Prop := fnExactGoodProgRow.holds Try.pinned (OpenSpec.ofChange fnExactGoodProgSpec)

/-- ITS FALSE NEIGHBOUR: 'it returns false'. Refute it at one input. -/
def fnExactGoodProgWrong : ChangeSpec := { name := "fnExactGoodProg", fn := fun _ => fun
  | [d] => { results := [.lit (.bool false)], args := [d] }
  | _ => none }
def FnExactGoodProgWrongFalsely : Prop := fnExactGoodProgRow.holds Try.pinned (OpenSpec.ofChange fnExactGoodProgWrong)

/-- 'laws.FnExactOrderOf': WHATEVER THE INPUT: true; the input reads as it did. -/
def fnExactOrderOfSpec : ChangeSpec := { name := "fnExactOrderOf", fn := fun _ => fun
  | [d] => { results := [.lit (.bool true)], args := [d] }
  | _ => none }
def fnExactOrderOfRow : OpenClaim := { program := "ytdniplnggikkgaa", sum := "0ea0302e29abd683b06a98b4b2780561414887601ef2495d90fbe7da416d6abc", func := "loop.example/g00745/laws.FnExactOrderOf", spec := "fnExactOrderOf", unfollowed := true, recurses := true, apart := false }
def FnExactOrderOfSaid : Prop := fnExactOrderOfRow.holds Try.pinned (OpenSpec.ofChange fnExactOrderOfSpec)

/-- ITS FALSE NEIGHBOUR: 'it returns false'. Refute it at one input. -/
def fnExactOrderOfWrong : ChangeSpec := { name := "fnExactOrderOf", fn := fun _ => fun
  | [d] => { results := [.lit (.bool false)], args := [d] }
  | _ => none }
def FnExactOrderOfWrongFalsely : Prop := fnExactOrderOfRow.holds Try.pinned (OpenSpec.ofChange fnExactOrderOfWrong)

/-- 'laws.FnExactSitesOf': WHATEVER THE INPUT: true; the input reads as it did. -/
def fnExactSitesOfSpec : ChangeSpec := { name := "fnExactSitesOf", fn := fun _ => fun
  | [d] => { results := [.lit (.bool true)], args := [d] }
  | _ => none }
def fnExactSitesOfRow : OpenClaim := { program := "ytdniplnggikkgaa", sum := "0ea0302e29abd683b06a98b4b2780561414887601ef2495d90fbe7da416d6abc", func := "loop.example/g00745/laws.FnExactSitesOf", spec := "fnExactSitesOf", unfollowed := true, recurses := true, apart := false }
def FnExactSitesOfSaid : Prop := fnExactSitesOfRow.holds Try.pinned (OpenSpec.ofChange fnExactSitesOfSpec)

/-- ITS FALSE NEIGHBOUR: 'it returns false'. Refute it at one input. -/
def fnExactSitesOfWrong : ChangeSpec := { name := "fnExactSitesOf", fn := fun _ => fun
  | [d] => { results := [.lit (.bool false)], args := [d] }
  | _ => none }
def FnExactSitesOfWrongFalsely : Prop := fnExactSitesOfRow.holds Try.pinned (OpenSpec.ofChange fnExactSitesOfWrong)

/-- 'laws.FnExactMayRecover': WHATEVER THE INPUT: true; the input reads as it did. -/
def fnExactMayRecoverSpec : ChangeSpec := { name := "fnExactMayRecover", fn := fun _ => fun
  | [d1, d2] => { results := [.lit (.bool true)], args := [d1, d2] }
  | _ => none }
def fnExactMayRecoverRow : OpenClaim := { program := "ytdniplnggikkgaa", sum := "0ea0302e29abd683b06a98b4b2780561414887601ef2495d90fbe7da416d6abc", func := "loop.example/g00745/laws.FnExactMayRecover", spec := "fnExactMayRecover", unfollowed := true, recurses := true, apart := false }
def FnExactMayRecoverSaid : Prop := fnExactMayRecoverRow.holds Try.pinned (OpenSpec.ofChange fnExactMayRecoverSpec)

/-- ITS FALSE NEIGHBOUR: 'it returns false'. Refute it at one input. -/
def fnExactMayRecoverWrong : ChangeSpec := { name := "fnExactMayRecover", fn := fun _ => fun
  | [d1, d2] => { results := [.lit (.bool false)], args := [d1, d2] }
  | _ => none }
def FnExactMayRecoverWrongFalsely : Prop := fnExactMayRecoverRow.holds Try.pinned (OpenSpec.ofChange fnExactMayRecoverWrong)

/-- 'laws.FnExactSiteOf': WHATEVER THE INPUT: true; the input reads as it did. -/
def fnExactSiteOfSpec : ChangeSpec := { name := "fnExactSiteOf", fn := fun _ => fun
  | [d1, d2, d3] => { results := [.lit (.bool true)], args := [d1, d2, d3] }
  | _ => none }
def fnExactSiteOfRow : OpenClaim := { program := "ytdniplnggikkgaa", sum := "0ea0302e29abd683b06a98b4b2780561414887601ef2495d90fbe7da416d6abc", func := "loop.example/g00745/laws.FnExactSiteOf", spec := "fnExactSiteOf", unfollowed := true, recurses := true, apart := false }
def FnExactSiteOfSaid : Prop := fnExactSiteOfRow.holds Try.pinned (OpenSpec.ofChange fnExactSiteOfSpec)

/-- ITS FALSE NEIGHBOUR: 'it returns false'. Refute it at one input. -/
def fnExactSiteOfWrong : ChangeSpec := { name := "fnExactSiteOf", fn := fun _ => fun
  | [d1, d2, d3] => { results := [.lit (.bool false)], args := [d1, d2, d3] }
  | _ => none }
def FnExactSiteOfWrongFalsely : Prop := fnExactSiteOfRow.holds Try.pinned (OpenSpec.ofChange fnExactSiteOfWrong)

/-- 'laws.FnExactParamsOf': WHATEVER THE INPUT: true; the input reads as it did. -/
def fnExactParamsOfSpec : ChangeSpec := { name := "fnExactParamsOf", fn := fun _ => fun
  | [d] => { results := [.lit (.bool true)], args := [d] }
  | _ => none }
def fnExactParamsOfRow : OpenClaim := { program := "ytdniplnggikkgaa", sum := "0ea0302e29abd683b06a98b4b2780561414887601ef2495d90fbe7da416d6abc", func := "loop.example/g00745/laws.FnExactParamsOf", spec := "fnExactParamsOf", unfollowed := true, recurses := true, apart := false }
def FnExactParamsOfSaid : Prop := fnExactParamsOfRow.holds Try.pinned (OpenSpec.ofChange fnExactParamsOfSpec)

/-- ITS FALSE NEIGHBOUR: 'it returns false'. Refute it at one input. -/
def fnExactParamsOfWrong : ChangeSpec := { name := "fnExactParamsOf", fn := fun _ => fun
  | [d] => { results := [.lit (.bool false)], args := [d] }
  | _ => none }
def FnExactParamsOfWrongFalsely : Prop := fnExactParamsOfRow.holds Try.pinned (OpenSpec.ofChange fnExactParamsOfWrong)

/-- 'laws.FnExactCallsOf': WHATEVER THE INPUT: true; the input reads as it did. -/
def fnExactCallsOfSpec : ChangeSpec := { name := "fnExactCallsOf", fn := fun _ => fun
  | [d1, d2] => { results := [.lit (.bool true)], args := [d1, d2] }
  | _ => none }
def fnExactCallsOfRow : OpenClaim := { program := "ytdniplnggikkgaa", sum := "0ea0302e29abd683b06a98b4b2780561414887601ef2495d90fbe7da416d6abc", func := "loop.example/g00745/laws.FnExactCallsOf", spec := "fnExactCallsOf", unfollowed := true, recurses := true, apart := false }
def FnExactCallsOfSaid : Prop := fnExactCallsOfRow.holds Try.pinned (OpenSpec.ofChange fnExactCallsOfSpec)

/-- ITS FALSE NEIGHBOUR: 'it returns false'. Refute it at one input. -/
def fnExactCallsOfWrong : ChangeSpec := { name := "fnExactCallsOf", fn := fun _ => fun
  | [d1, d2] => { results := [.lit (.bool false)], args := [d1, d2] }
  | _ => none }
def FnExactCallsOfWrongFalsely : Prop := fnExactCallsOfRow.holds Try.pinned (OpenSpec.ofChange fnExactCallsOfWrong)

/-- 'laws.FnProgs': WHATEVER THE INPUT: true; the input reads as it did. -/
def fnProgsSpec : ChangeSpec := { name := "fnProgs", fn := fun _ => fun
  | [d1, d2] => { results := [.lit (.bool true)], args := [d1, d2] }
  | _ => none }
def fnProgsRow : OpenClaim := { program := "ytdniplnggikkgaa", sum := "0ea0302e29abd683b06a98b4b2780561414887601ef2495d90fbe7da416d6abc", func := "loop.example/g00745/laws.FnProgs", spec := "fnProgs", unfollowed := true, recurses := true, apart := false }
def FnProgsSaid : Prop := fnProgsRow.holds Try.pinned (OpenSpec.ofChange fnProgsSpec)

/-- ITS FALSE NEIGHBOUR: 'it returns false'. Refute it at one input. -/
def fnProgsWrong : ChangeSpec := { name := "fnProgs", fn := fun _ => fun
  | [d1, d2] => { results := [.lit (.bool false)], args := [d1, d2] }
  | _ => none }
def FnProgsWrongFalsely : Prop := fnProgsRow.holds Try.pinned (OpenSpec.ofChange fnProgsWrong)

/- THE SECOND FORM. 'bulk': how many values and letters a reading holds, each counted each time it is reached (what is shared counts as often as it is met; a slice's spare places count too). A statement '..UptoSaid' is the law's where the arguments, and the package variables that the reading takes, are together of bulk at most 1048576: NARROWER than '..Said'. Prove '..Said' where nothing that the law and all that it calls make is longer than what came in: it says more and counts as full. Else prove '..UptoSaid'. A law counts once. -/
mutual
def uptoBulk {H : Type} : DataW H → Nat
  | .lit (.string bytes) => bytes.length + 1
  | .lit _ => 1
  | .nil => 1
  | .ptr d => uptoBulk d + 1
  | .slice elems spare => uptoBulkAll elems + uptoBulkAll spare + 1
  | .agg parts => uptoBulkAll parts + 1
  | .iface _ d => uptoBulk d + 1
  | .map entries => uptoBulkEntries entries + 1
  | .held _ => 1
def uptoBulkAll {H : Type} : List (DataW H) → Nat
  | [] => 0
  | d :: r => uptoBulk d + uptoBulkAll r
def uptoBulkEntries {H : Type} : List (Lit × DataW H) → Nat
  | [] => 0
  | x :: r => uptoBulkEntry x + uptoBulkEntries r
def uptoBulkEntry {H : Type} : Lit × DataW H → Nat
  | (.string bytes, d) => bytes.length + uptoBulk d + 1
  | (_, d) => uptoBulk d + 1
 end
def uptoSmall : (H : Type) → List (DataW H) → Bool := fun _ ds => decide (uptoBulkAll ds ≤ 1048576)
def OpenSpec.upto (s : _root_.Go.ChangeSpec) : _root_.Go.OpenSpec := { _root_.Go.OpenSpec.ofChange s with cond := some uptoSmall }

/-- 'laws.FnExactGoodProg', WHERE WHAT IT READS IS OF BULK AT MOST 1048576: true; the input reads as it did. -/
def fnExactGoodProgUptoRow : OpenClaim := { program := "ytdniplnggikkgaa", sum := "0ea0302e29abd683b06a98b4b2780561414887601ef2495d90fbe7da416d6abc", func := "loop.example/g00745/laws.FnExactGoodProg", spec := "fnExactGoodProg", unfollowed := true, recurses := true, apart := false, narrowed := true }
def FnExactGoodProgUptoSaid : Prop := fnExactGoodProgUptoRow.holds Try.pinned (OpenSpec.upto fnExactGoodProgSpec)

/-- 'laws.FnExactOrderOf', WHERE WHAT IT READS IS OF BULK AT MOST 1048576: true; the input reads as it did. -/
def fnExactOrderOfUptoRow : OpenClaim := { program := "ytdniplnggikkgaa", sum := "0ea0302e29abd683b06a98b4b2780561414887601ef2495d90fbe7da416d6abc", func := "loop.example/g00745/laws.FnExactOrderOf", spec := "fnExactOrderOf", unfollowed := true, recurses := true, apart := false, narrowed := true }
def FnExactOrderOfUptoSaid : Prop := fnExactOrderOfUptoRow.holds Try.pinned (OpenSpec.upto fnExactOrderOfSpec)

/-- 'laws.FnExactSitesOf', WHERE WHAT IT READS IS OF BULK AT MOST 1048576: true; the input reads as it did. -/
def fnExactSitesOfUptoRow : OpenClaim := { program := "ytdniplnggikkgaa", sum := "0ea0302e29abd683b06a98b4b2780561414887601ef2495d90fbe7da416d6abc", func := "loop.example/g00745/laws.FnExactSitesOf", spec := "fnExactSitesOf", unfollowed := true, recurses := true, apart := false, narrowed := true }
def FnExactSitesOfUptoSaid : Prop := fnExactSitesOfUptoRow.holds Try.pinned (OpenSpec.upto fnExactSitesOfSpec)

/-- 'laws.FnExactMayRecover', WHERE WHAT IT READS IS OF BULK AT MOST 1048576: true; the input reads as it did. -/
def fnExactMayRecoverUptoRow : OpenClaim := { program := "ytdniplnggikkgaa", sum := "0ea0302e29abd683b06a98b4b2780561414887601ef2495d90fbe7da416d6abc", func := "loop.example/g00745/laws.FnExactMayRecover", spec := "fnExactMayRecover", unfollowed := true, recurses := true, apart := false, narrowed := true }
def FnExactMayRecoverUptoSaid : Prop := fnExactMayRecoverUptoRow.holds Try.pinned (OpenSpec.upto fnExactMayRecoverSpec)

/-- 'laws.FnExactSiteOf', WHERE WHAT IT READS IS OF BULK AT MOST 1048576: true; the input reads as it did. -/
def fnExactSiteOfUptoRow : OpenClaim := { program := "ytdniplnggikkgaa", sum := "0ea0302e29abd683b06a98b4b2780561414887601ef2495d90fbe7da416d6abc", func := "loop.example/g00745/laws.FnExactSiteOf", spec := "fnExactSiteOf", unfollowed := true, recurses := true, apart := false, narrowed := true }
def FnExactSiteOfUptoSaid : Prop := fnExactSiteOfUptoRow.holds Try.pinned (OpenSpec.upto fnExactSiteOfSpec)

/-- 'laws.FnExactParamsOf', WHERE WHAT IT READS IS OF BULK AT MOST 1048576: true; the input reads as it did. -/
def fnExactParamsOfUptoRow : OpenClaim := { program := "ytdniplnggikkgaa", sum := "0ea0302e29abd683b06a98b4b2780561414887601ef2495d90fbe7da416d6abc", func := "loop.example/g00745/laws.FnExactParamsOf", spec := "fnExactParamsOf", unfollowed := true, recurses := true, apart := false, narrowed := true }
def FnExactParamsOfUptoSaid : Prop := fnExactParamsOfUptoRow.holds Try.pinned (OpenSpec.upto fnExactParamsOfSpec)

/-- 'laws.FnExactCallsOf', WHERE WHAT IT READS IS OF BULK AT MOST 1048576: true; the input reads as it did. -/
def fnExactCallsOfUptoRow : OpenClaim := { program := "ytdniplnggikkgaa", sum := "0ea0302e29abd683b06a98b4b2780561414887601ef2495d90fbe7da416d6abc", func := "loop.example/g00745/laws.FnExactCallsOf", spec := "fnExactCallsOf", unfollowed := true, recurses := true, apart := false, narrowed := true }
def FnExactCallsOfUptoSaid : Prop := fnExactCallsOfUptoRow.holds Try.pinned (OpenSpec.upto fnExactCallsOfSpec)

/-- 'laws.FnProgs', WHERE WHAT IT READS IS OF BULK AT MOST 1048576: true; the input reads as it did. -/
def fnProgsUptoRow : OpenClaim := { program := "ytdniplnggikkgaa", sum := "0ea0302e29abd683b06a98b4b2780561414887601ef2495d90fbe7da416d6abc", func := "loop.example/g00745/laws.FnProgs", spec := "fnProgs", unfollowed := true, recurses := true, apart := false, narrowed := true }
def FnProgsUptoSaid : Prop := fnProgsUptoRow.holds Try.pinned (OpenSpec.upto fnProgsSpec)

end Rows
end Go.Proofs.Ytdniplnggikkgaa
