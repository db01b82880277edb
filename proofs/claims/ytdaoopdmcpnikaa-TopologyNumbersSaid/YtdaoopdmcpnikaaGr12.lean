/- Own work, a part of the proof (Gr12). Conditions: none. -/
import Derived.Test.YtdaoopdmcpnikaaGrD
set_option linter.unusedVariables false
set_option linter.unusedSimpArgs false
namespace Go.Gh
open Go.Proofs
attribute [local irreducible] wpS wpR wpT

end Go.Gh
