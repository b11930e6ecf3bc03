/- Parts of the proof of TopOnce, under no condition. -/
import Derived.Test.YtcfhkbcllijnkaaGreatZTopOncead
import Derived.Deep.Slices
import Derived.Deep.Fields
import Derived.Deep.Grids
import Derived.ChangeSame
import Derived.Lib.SmallJoins
set_option linter.unusedVariables false
set_option linter.unusedSimpArgs false
set_option maxRecDepth 100000
set_option maxHeartbeats 0
namespace Go.Proofs.YtcfhkbcllijnkaaGreat
open Go.ChangeShapes Go.WideShapes Go.RowKit Go.Deep
end Go.Proofs.YtcfhkbcllijnkaaGreat
