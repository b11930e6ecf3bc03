/- Contracts and plain laws that the proof of TopMany goes by, joined out of the texts QOpen. -/
import Derived.Test.YtcfhkbcllijnkaaGreatZTopManyab
import Derived.Deep.Slices
import Derived.Deep.Fields
import Derived.Deep.Grids
import Derived.ChangeSame
import Derived.Lib.SmallJoins
set_option linter.unusedVariables false
set_option linter.unusedSimpArgs false
namespace Go.Proofs.YtcfhkbcllijnkaaGreat
open Go.ChangeShapes Go.WideShapes Go.RowKit Go.Deep
end Go.Proofs.YtcfhkbcllijnkaaGreat
