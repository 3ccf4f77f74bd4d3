/- Contracts of what maps a function over the parts of vectors. -/
import Derived.Test.YtdkjiafdfenbkaaNum
namespace Go.Proofs.Ytdkjiafdfenbkaa
open Go.RowKit
@[reducible] def vecV (x y z : Int) : Value := .agg #[.int .i64 x, .int .i64 y, .int .i64 z]
/-- A coordinate, limited. -/
def cc (n : Int) : Int := clampI n (-1000000) 1000000
end Go.Proofs.Ytdkjiafdfenbkaa
