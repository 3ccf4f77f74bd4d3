/- What the law FnExactSubdivide leans on. -/
import Derived.Test.YtpfmcobkfofbjaaGreatSubX
import Derived.Test.YtpfmcobkfofbjaaGreatMarkMesh
