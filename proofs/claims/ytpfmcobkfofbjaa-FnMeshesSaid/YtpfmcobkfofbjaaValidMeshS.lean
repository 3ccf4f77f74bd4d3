/- Contract of the reference's IsValidMesh. -/
import Derived.Test.YtpfmcobkfofbjaaValidMesh
namespace Go.Proofs.Ytpfmcobkfofbjaa
open Go Go.RowKit
end Go.Proofs.Ytpfmcobkfofbjaa
