
/- isFrame: what the Go text returns. No condition. -/
import Derived.Test.YtaebmliolpgmdaaGreatGv2a
import Derived.Test.YtaebmliolpgmdaaGreatGv2b
import Derived.Test.YtaebmliolpgmdaaGreatGv2c
set_option linter.unusedSimpArgs false
set_option linter.unusedVariables false
namespace Go.Proofs.YtaebmliolpgmdaaGreat
open Go.RowKit Go.Shelf

theorem impl_isFrame (xs fs : List Value) (x : ImageM) (f : FrameM) (w : World) (hx : RImage w 0 w.heap.size xs x) (hf : RFrame w 0 w.heap.size fs f) :
    Calls Tryz.prog 70 #[.agg xs.toArray, .agg fs.toArray] w fun e w' => e = .returned (.bool (frB x.qCodes f)) ∧ Below w.heap.size w w' := by
  by_cases h : (smallB f.qId = true ∧ inB f.qAt 0 ((cF x.qCodes f).qIns.length - 1) = true ∧ b32 f.qPile = true ∧ b32 f.qVars = true)
  · by_cases hf0 : inB f.qFn 0 (x.qCodes.length - 1) = true
    · by_cases g : ((f.qVars.length : Int) = (cF x.qCodes f).qVars ∧ f.qFlags.length = (cF x.qCodes f).qSites.length ∧ smallB f.qResult = true ∧ inB f.qMode 0 3 = true)
      · exact impl_isFrame_c xs fs x f w hx hf hf0 ⟨h, g⟩
      · exact impl_isFrame_b xs fs x f w hx hf hf0 ⟨h, g⟩
    · exact impl_isFrame_z xs fs x f w hx hf hf0
  · exact impl_isFrame_a xs fs x f w hx hf h
end Go.Proofs.YtaebmliolpgmdaaGreat
