/- Contract of the reference's rows (qanatref07): Put. -/
import Derived.Test.YtojjeogpggielaaSet1
set_option linter.unusedVariables false
set_option linter.unusedSimpArgs false
set_option maxRecDepth 100000
namespace Go.Proofs.Ytojjeogpggielaa
open Go.RowKit

end Go.Proofs.Ytojjeogpggielaa
