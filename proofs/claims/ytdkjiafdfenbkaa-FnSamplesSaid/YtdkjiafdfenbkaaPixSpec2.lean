/- Contract of the reference at 2 squares on a side. -/
import Derived.Test.YtdkjiafdfenbkaaPixMath
import Derived.Test.YtdkjiafdfenbkaaPixelAt
namespace Go.Proofs.Ytdkjiafdfenbkaa
open Go Go.RowKit
end Go.Proofs.Ytdkjiafdfenbkaa
