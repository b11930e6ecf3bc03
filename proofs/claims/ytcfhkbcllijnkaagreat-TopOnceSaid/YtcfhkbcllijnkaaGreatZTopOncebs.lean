/- Parts of the proof of TopOnce, under no condition. -/
import Derived.Test.YtcfhkbcllijnkaaGreatZTopOncebr
import Derived.Test.YtcfhkbcllijnkaaGreatZTopOnceaf
set_option linter.unusedVariables false
set_option linter.unusedSimpArgs false
set_option maxRecDepth 100000
set_option maxHeartbeats 0
namespace Go.Proofs.YtcfhkbcllijnkaaGreat
open Go.RowKit Go.Maps Go.Shelf Go.Proofs.YtcfhkbcllijnkaaGreatW.PrintWords
section
variable {w1 w w' : World} {M : MA} {s1 s s' : MS} {T k E P B E' P' B' : Nat} {D : Int}
def zqq (W : World) (a : Option Addr) (n : Nat) : Prop := n = 0 ∨ ∃ b off, a = some ⟨b, off, none⟩ ∧ n ≤ 9223372036854775807 ∧ b < W.heap.size ∧ ∀ j, j < n → ∃ z : Int, W.cell? ⟨b, off + j, none⟩ = some (.int .u64 z) ∧ 0 ≤ z ∧ z ≤ top
end
end Go.Proofs.YtcfhkbcllijnkaaGreat
