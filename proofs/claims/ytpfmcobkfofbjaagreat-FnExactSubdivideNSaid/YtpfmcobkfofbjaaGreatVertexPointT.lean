/- Contract of VertexPoint. -/
import Derived.Test.YtpfmcobkfofbjaaGreatVertexPoint
namespace Go.Proofs.YtpfmcobkfofbjaaGreat
open Go Go.RowKit
end Go.Proofs.YtpfmcobkfofbjaaGreat
