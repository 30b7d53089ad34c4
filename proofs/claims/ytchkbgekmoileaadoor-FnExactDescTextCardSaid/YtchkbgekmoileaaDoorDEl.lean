/- The law of DescOk on values. -/
import Derived.Test.YtchkbgekmoileaaDoorDE
namespace Go.Proofs.YtchkbgekmoileaaDoor
open Go Go.RowKit
set_option linter.unusedVariables false
set_option linter.unusedSimpArgs false
set_option maxRecDepth 100000
set_option maxHeartbeats 4000000
attribute [local irreducible] VWP vops vdraw contV contD CallK Guard GuardV NextL Puts Runs RetOK RetQ RetO RetQO thenQ blockQ

end Go.Proofs.YtchkbgekmoileaaDoor
