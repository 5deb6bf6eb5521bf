
/- HighOf, NeedsOf: what the Go text returns. No condition. -/
import Derived.Test.YtdniplnggikkgaaEx4
set_option linter.unusedSimpArgs false
set_option linter.unusedVariables false
set_option maxRecDepth 100000
namespace Go.Proofs.Ytdniplnggikkgaa
open Go.RowKit Go.Shelf

def highR (e : List P2) (params : List Int) : Int := if parOk params = true then highOf 6 params e else 0
def highB (e : List P2) (params : List Int) : Bool := decide (0 < highR e params)
theorem retIBx {a b : Int} {c d : Bool} (h : a = b) (h2 : c = d) : Ending.returned (.tuple #[.int .i64 a, .bool c]) = .returned (.tuple #[.int .i64 b, .bool d]) := by rw [h, h2]

def needB (t : P2) (params : List Int) : Bool := parOk params && tokOk 6 params.length t
def needR (t : P2) (params : List Int) : Int := if needB t params = true then need params t else 0
end Go.Proofs.Ytdniplnggikkgaa
