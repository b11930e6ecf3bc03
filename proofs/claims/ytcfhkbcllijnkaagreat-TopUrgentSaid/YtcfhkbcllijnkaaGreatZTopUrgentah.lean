/- Contracts and plain laws that the proof of TopUrgent goes by, under no condition. -/
import Derived.Test.YtcfhkbcllijnkaaGreatZTopUrgentac
import Derived.Deep.Slices
import Derived.Deep.Fields
import Derived.Deep.Grids
import Derived.ChangeSame
import Derived.Lib.SmallJoins
set_option linter.unusedVariables false
set_option linter.unusedSimpArgs false
set_option maxRecDepth 100000
set_option maxHeartbeats 40000000
namespace Go.Proofs.YtcfhkbcllijnkaaGreat
open Go.ChangeShapes Go.WideShapes Go.RowKit Go.Deep
end Go.Proofs.YtcfhkbcllijnkaaGreat
