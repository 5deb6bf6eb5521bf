
/- l3Stmt: what the Go text returns, the worlds. No condition. -/
import Derived.Test.YtdniplnggikkgaaPg4
set_option linter.unusedSimpArgs false
set_option linter.unusedVariables false
set_option maxRecDepth 100000
namespace Go.Proofs.Ytdniplnggikkgaa
open Go.RowKit

/-- the world behind the two boxes -/
def W0 (a0 vars : Int) (x2 x3 : Value) (k N : Int) (u2 u3 u4 : Value) (w : World) : World := (w.alloc (.cells #[.int .i64 a0, .int .i64 vars, x2, x3] 42)).alloc (.cells #[.int .i64 k, .int .i64 N, u2, u3, u4] 71)
end Go.Proofs.Ytdniplnggikkgaa
