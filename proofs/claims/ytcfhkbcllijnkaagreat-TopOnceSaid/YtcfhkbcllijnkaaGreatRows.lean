/-
  No cell of these rows narrows 'for every input' (looked for: loops, veiled, ifaces, maps, wideKeys, modest, calm, conditions, laid).
  DERIVED. THE GIVEN ROWS OF THIS SEAT. 7 by the template 'for every input the law returns true; each argument reads behind the call as it read before'; 0 by the template 'total and deterministic' (their statements: YtcfhkbcllijnkaaGreatTotals.lean).
  GIVEN WITH THE SEED: the statements are not yours to turn. If you find one false, say at which input.
  Laid BY PROGRAM, IN A SANDBOX (cutbox-rows.mjs): the forced cells as the released guide's own fill.sh prints them over the translation 182f51d78aef99d6… (all of the seat's roots in one cut). By AI agents, Wed Nov 11 2026. No macro, syntax, notation, axiom, sorry.
-/
import Derived.Test.YtcfhkbcllijnkaaGreatChecked
import GoSem.Claim
import GoSem.ClaimJoined
import GoSem.ClaimMapViews
import Derived.JoinedTies
import Derived.KernelRfl
namespace Go.Proofs.YtcfhkbcllijnkaaGreat
/- THE CELL 'sum', in the pinned program and in every row, IS THE sha256 OF THE DUMP (.gsa) THAT YtcfhkbcllijnkaaGreatProg.lean LOADS. Nothing in Lean hashes anything: it is a label: what it is worth is what the hold of that sum in a sandbox is worth. -/
noncomputable def Tryz.pinned : Pinned := { name := "ytcfhkbcllijnkaagreat", sum := "182f51d78aef99d660d94fa891ee27e6b7dce59787143c99184888c659af0edf", checked := Tryz.checked }
namespace Rows
def none {H : Type} : Left H := { results := [], args := [] }

/-- 'vergertop.TopMany': WHATEVER THE INPUT: true; the input reads as it did. -/
def topManySpec : ChangeSpec := { name := "topMany", fn := fun _ => fun
  | [d1, d2, d3] => { results := [.lit (.bool true)], args := [d1, d2, d3] }
  | _ => none }
def topManyRow : OpenClaim := { program := "ytcfhkbcllijnkaagreat", sum := "182f51d78aef99d660d94fa891ee27e6b7dce59787143c99184888c659af0edf", func := "verger/vergertop.TopMany", spec := "topMany", inPlace := ["math/bits.Add64", "slices.overlaps[verger/block.Block]", "slices.overlaps[verger/api.Timer]"], unfollowed := true, recurses := true, plainKeys := false, apart := false }
def TopManySaid : Prop := topManyRow.holds Tryz.pinned (OpenSpec.ofChange topManySpec)

/-- ITS FALSE NEIGHBOUR: 'it returns false'. Refute it at one input. -/
def topManyWrong : ChangeSpec := { name := "topMany", fn := fun _ => fun
  | [d1, d2, d3] => { results := [.lit (.bool false)], args := [d1, d2, d3] }
  | _ => none }
def TopManyWrongFalsely : Prop := topManyRow.holds Tryz.pinned (OpenSpec.ofChange topManyWrong)

/-- 'vergertop.TopSame': WHATEVER THE INPUT: true; the input reads as it did. -/
def topSameSpec : ChangeSpec := { name := "topSame", fn := fun _ => fun
  | [d1, d2, d3, d4] => { results := [.lit (.bool true)], args := [d1, d2, d3, d4] }
  | _ => none }
def topSameRow : OpenClaim := { program := "ytcfhkbcllijnkaagreat", sum := "182f51d78aef99d660d94fa891ee27e6b7dce59787143c99184888c659af0edf", func := "verger/vergertop.TopSame", spec := "topSame", inPlace := ["math/bits.Add64", "slices.overlaps[verger/block.Block]", "slices.overlaps[verger/api.Timer]"], unfollowed := true, recurses := true, plainKeys := false, apart := false }
def TopSameSaid : Prop := topSameRow.holds Tryz.pinned (OpenSpec.ofChange topSameSpec)

/-- ITS FALSE NEIGHBOUR: 'it returns false'. Refute it at one input. -/
def topSameWrong : ChangeSpec := { name := "topSame", fn := fun _ => fun
  | [d1, d2, d3, d4] => { results := [.lit (.bool false)], args := [d1, d2, d3, d4] }
  | _ => none }
def TopSameWrongFalsely : Prop := topSameRow.holds Tryz.pinned (OpenSpec.ofChange topSameWrong)

/-- 'vergertop.TopPhi': WHATEVER THE INPUT: true; the input reads as it did. -/
def topPhiSpec : ChangeSpec := { name := "topPhi", fn := fun _ => fun
  | [d1, d2, d3, d4, d5] => { results := [.lit (.bool true)], args := [d1, d2, d3, d4, d5] }
  | _ => none }
def topPhiRow : OpenClaim := { program := "ytcfhkbcllijnkaagreat", sum := "182f51d78aef99d660d94fa891ee27e6b7dce59787143c99184888c659af0edf", func := "verger/vergertop.TopPhi", spec := "topPhi", inPlace := ["math/bits.Add64", "slices.overlaps[verger/block.Block]", "slices.overlaps[verger/api.Timer]"], unfollowed := true, recurses := true, plainKeys := false, apart := false }
def TopPhiSaid : Prop := topPhiRow.holds Tryz.pinned (OpenSpec.ofChange topPhiSpec)

/-- ITS FALSE NEIGHBOUR: 'it returns false'. Refute it at one input. -/
def topPhiWrong : ChangeSpec := { name := "topPhi", fn := fun _ => fun
  | [d1, d2, d3, d4, d5] => { results := [.lit (.bool false)], args := [d1, d2, d3, d4, d5] }
  | _ => none }
def TopPhiWrongFalsely : Prop := topPhiRow.holds Tryz.pinned (OpenSpec.ofChange topPhiWrong)

/-- 'vergertop.TopPairs': WHATEVER THE INPUT: true; the input reads as it did. -/
def topPairsSpec : ChangeSpec := { name := "topPairs", fn := fun _ => fun
  | [d1, d2, d3, d4] => { results := [.lit (.bool true)], args := [d1, d2, d3, d4] }
  | _ => none }
def topPairsRow : OpenClaim := { program := "ytcfhkbcllijnkaagreat", sum := "182f51d78aef99d660d94fa891ee27e6b7dce59787143c99184888c659af0edf", func := "verger/vergertop.TopPairs", spec := "topPairs", inPlace := ["math/bits.Add64", "slices.overlaps[verger/block.Block]", "slices.overlaps[verger/api.Timer]"], unfollowed := true, recurses := true, plainKeys := false, apart := false }
def TopPairsSaid : Prop := topPairsRow.holds Tryz.pinned (OpenSpec.ofChange topPairsSpec)

/-- ITS FALSE NEIGHBOUR: 'it returns false'. Refute it at one input. -/
def topPairsWrong : ChangeSpec := { name := "topPairs", fn := fun _ => fun
  | [d1, d2, d3, d4] => { results := [.lit (.bool false)], args := [d1, d2, d3, d4] }
  | _ => none }
def TopPairsWrongFalsely : Prop := topPairsRow.holds Tryz.pinned (OpenSpec.ofChange topPairsWrong)

/-- 'vergertop.TopOrders': WHATEVER THE INPUT: true; the input reads as it did. -/
def topOrdersSpec : ChangeSpec := { name := "topOrders", fn := fun _ => fun
  | [d1, d2, d3, d4] => { results := [.lit (.bool true)], args := [d1, d2, d3, d4] }
  | _ => none }
def topOrdersRow : OpenClaim := { program := "ytcfhkbcllijnkaagreat", sum := "182f51d78aef99d660d94fa891ee27e6b7dce59787143c99184888c659af0edf", func := "verger/vergertop.TopOrders", spec := "topOrders", inPlace := ["math/bits.Add64", "slices.overlaps[verger/block.Block]", "slices.overlaps[verger/api.Timer]"], unfollowed := true, recurses := true, plainKeys := false, apart := false }
def TopOrdersSaid : Prop := topOrdersRow.holds Tryz.pinned (OpenSpec.ofChange topOrdersSpec)

/-- ITS FALSE NEIGHBOUR: 'it returns false'. Refute it at one input. -/
def topOrdersWrong : ChangeSpec := { name := "topOrders", fn := fun _ => fun
  | [d1, d2, d3, d4] => { results := [.lit (.bool false)], args := [d1, d2, d3, d4] }
  | _ => none }
def TopOrdersWrongFalsely : Prop := topOrdersRow.holds Tryz.pinned (OpenSpec.ofChange topOrdersWrong)

/-- 'vergertop.TopOnce': WHATEVER THE INPUT: true; the input reads as it did. -/
def topOnceSpec : ChangeSpec := { name := "topOnce", fn := fun _ => fun
  | [d1, d2, d3, d4, d5, d6] => { results := [.lit (.bool true)], args := [d1, d2, d3, d4, d5, d6] }
  | _ => none }
def topOnceRow : OpenClaim := { program := "ytcfhkbcllijnkaagreat", sum := "182f51d78aef99d660d94fa891ee27e6b7dce59787143c99184888c659af0edf", func := "verger/vergertop.TopOnce", spec := "topOnce", inPlace := ["math/bits.Add64", "slices.overlaps[verger/block.Block]", "slices.overlaps[verger/api.Timer]"], unfollowed := true, recurses := true, plainKeys := false, apart := false }
def TopOnceSaid : Prop := topOnceRow.holds Tryz.pinned (OpenSpec.ofChange topOnceSpec)

/-- ITS FALSE NEIGHBOUR: 'it returns false'. Refute it at one input. -/
def topOnceWrong : ChangeSpec := { name := "topOnce", fn := fun _ => fun
  | [d1, d2, d3, d4, d5, d6] => { results := [.lit (.bool false)], args := [d1, d2, d3, d4, d5, d6] }
  | _ => none }
def TopOnceWrongFalsely : Prop := topOnceRow.holds Tryz.pinned (OpenSpec.ofChange topOnceWrong)

/-- 'vergertop.TopUrgent': WHATEVER THE INPUT: true; the input reads as it did. -/
def topUrgentSpec : ChangeSpec := { name := "topUrgent", fn := fun _ => fun
  | [d1, d2, d3, d4] => { results := [.lit (.bool true)], args := [d1, d2, d3, d4] }
  | _ => none }
def topUrgentRow : OpenClaim := { program := "ytcfhkbcllijnkaagreat", sum := "182f51d78aef99d660d94fa891ee27e6b7dce59787143c99184888c659af0edf", func := "verger/vergertop.TopUrgent", spec := "topUrgent", inPlace := ["math/bits.Add64", "slices.overlaps[verger/block.Block]", "slices.overlaps[verger/api.Timer]"], unfollowed := true, recurses := true, plainKeys := false, apart := false }
def TopUrgentSaid : Prop := topUrgentRow.holds Tryz.pinned (OpenSpec.ofChange topUrgentSpec)

/-- ITS FALSE NEIGHBOUR: 'it returns false'. Refute it at one input. -/
def topUrgentWrong : ChangeSpec := { name := "topUrgent", fn := fun _ => fun
  | [d1, d2, d3, d4] => { results := [.lit (.bool false)], args := [d1, d2, d3, d4] }
  | _ => none }
def TopUrgentWrongFalsely : Prop := topUrgentRow.holds Tryz.pinned (OpenSpec.ofChange topUrgentWrong)

/- THE SECOND FORM. 'bulk': how many values and letters a reading holds, each counted each time it is reached (what is shared counts as often as it is met; a slice's spare places count too). A statement '..UptoSaid' is the law's where the arguments, and the package variables that the reading takes, are together of bulk at most 1048576: NARROWER than '..Said'. Prove '..Said' where nothing that the law and all that it calls make is longer than what came in: it says more and counts as full. Else prove '..UptoSaid'. A law counts once. -/
mutual
def uptoBulk {H : Type} : DataW H → Nat
  | .lit (.string bytes) => bytes.length + 1
  | .lit _ => 1
  | .nil => 1
  | .ptr d => uptoBulk d + 1
  | .slice elems spare => uptoBulkAll elems + uptoBulkAll spare + 1
  | .agg parts => uptoBulkAll parts + 1
  | .iface _ d => uptoBulk d + 1
  | .map entries => uptoBulkEntries entries + 1
  | .held _ => 1
def uptoBulkAll {H : Type} : List (DataW H) → Nat
  | [] => 0
  | d :: r => uptoBulk d + uptoBulkAll r
def uptoBulkEntries {H : Type} : List (Lit × DataW H) → Nat
  | [] => 0
  | x :: r => uptoBulkEntry x + uptoBulkEntries r
def uptoBulkEntry {H : Type} : Lit × DataW H → Nat
  | (.string bytes, d) => bytes.length + uptoBulk d + 1
  | (_, d) => uptoBulk d + 1
 end
def uptoSmall : (H : Type) → List (DataW H) → Bool := fun _ ds => decide (uptoBulkAll ds ≤ 1048576)
def OpenSpec.upto (s : _root_.Go.ChangeSpec) : _root_.Go.OpenSpec := { _root_.Go.OpenSpec.ofChange s with cond := some uptoSmall }

/-- 'vergertop.TopMany', WHERE WHAT IT READS IS OF BULK AT MOST 1048576: true; the input reads as it did. -/
def topManyUptoRow : OpenClaim := { program := "ytcfhkbcllijnkaagreat", sum := "182f51d78aef99d660d94fa891ee27e6b7dce59787143c99184888c659af0edf", func := "verger/vergertop.TopMany", spec := "topMany", inPlace := ["math/bits.Add64", "slices.overlaps[verger/block.Block]", "slices.overlaps[verger/api.Timer]"], unfollowed := true, recurses := true, plainKeys := false, apart := false, narrowed := true }
def TopManyUptoSaid : Prop := topManyUptoRow.holds Tryz.pinned (OpenSpec.upto topManySpec)

/-- 'vergertop.TopSame', WHERE WHAT IT READS IS OF BULK AT MOST 1048576: true; the input reads as it did. -/
def topSameUptoRow : OpenClaim := { program := "ytcfhkbcllijnkaagreat", sum := "182f51d78aef99d660d94fa891ee27e6b7dce59787143c99184888c659af0edf", func := "verger/vergertop.TopSame", spec := "topSame", inPlace := ["math/bits.Add64", "slices.overlaps[verger/block.Block]", "slices.overlaps[verger/api.Timer]"], unfollowed := true, recurses := true, plainKeys := false, apart := false, narrowed := true }
def TopSameUptoSaid : Prop := topSameUptoRow.holds Tryz.pinned (OpenSpec.upto topSameSpec)

/-- 'vergertop.TopPhi', WHERE WHAT IT READS IS OF BULK AT MOST 1048576: true; the input reads as it did. -/
def topPhiUptoRow : OpenClaim := { program := "ytcfhkbcllijnkaagreat", sum := "182f51d78aef99d660d94fa891ee27e6b7dce59787143c99184888c659af0edf", func := "verger/vergertop.TopPhi", spec := "topPhi", inPlace := ["math/bits.Add64", "slices.overlaps[verger/block.Block]", "slices.overlaps[verger/api.Timer]"], unfollowed := true, recurses := true, plainKeys := false, apart := false, narrowed := true }
def TopPhiUptoSaid : Prop := topPhiUptoRow.holds Tryz.pinned (OpenSpec.upto topPhiSpec)

/-- 'vergertop.TopPairs', WHERE WHAT IT READS IS OF BULK AT MOST 1048576: true; the input reads as it did. -/
def topPairsUptoRow : OpenClaim := { program := "ytcfhkbcllijnkaagreat", sum := "182f51d78aef99d660d94fa891ee27e6b7dce59787143c99184888c659af0edf", func := "verger/vergertop.TopPairs", spec := "topPairs", inPlace := ["math/bits.Add64", "slices.overlaps[verger/block.Block]", "slices.overlaps[verger/api.Timer]"], unfollowed := true, recurses := true, plainKeys := false, apart := false, narrowed := true }
def TopPairsUptoSaid : Prop := topPairsUptoRow.holds Tryz.pinned (OpenSpec.upto topPairsSpec)

/-- 'vergertop.TopOrders', WHERE WHAT IT READS IS OF BULK AT MOST 1048576: true; the input reads as it did. -/
def topOrdersUptoRow : OpenClaim := { program := "ytcfhkbcllijnkaagreat", sum := "182f51d78aef99d660d94fa891ee27e6b7dce59787143c99184888c659af0edf", func := "verger/vergertop.TopOrders", spec := "topOrders", inPlace := ["math/bits.Add64", "slices.overlaps[verger/block.Block]", "slices.overlaps[verger/api.Timer]"], unfollowed := true, recurses := true, plainKeys := false, apart := false, narrowed := true }
def TopOrdersUptoSaid : Prop := topOrdersUptoRow.holds Tryz.pinned (OpenSpec.upto topOrdersSpec)

/-- 'vergertop.TopOnce', WHERE WHAT IT READS IS OF BULK AT MOST 1048576: true; the input reads as it did. -/
def topOnceUptoRow : OpenClaim := { program := "ytcfhkbcllijnkaagreat", sum := "182f51d78aef99d660d94fa891ee27e6b7dce59787143c99184888c659af0edf", func := "verger/vergertop.TopOnce", spec := "topOnce", inPlace := ["math/bits.Add64", "slices.overlaps[verger/block.Block]", "slices.overlaps[verger/api.Timer]"], unfollowed := true, recurses := true, plainKeys := false, apart := false, narrowed := true }
def TopOnceUptoSaid : Prop := topOnceUptoRow.holds Tryz.pinned (OpenSpec.upto topOnceSpec)

/-- 'vergertop.TopUrgent', WHERE WHAT IT READS IS OF BULK AT MOST 1048576: true; the input reads as it did. -/
def topUrgentUptoRow : OpenClaim := { program := "ytcfhkbcllijnkaagreat", sum := "182f51d78aef99d660d94fa891ee27e6b7dce59787143c99184888c659af0edf", func := "verger/vergertop.TopUrgent", spec := "topUrgent", inPlace := ["math/bits.Add64", "slices.overlaps[verger/block.Block]", "slices.overlaps[verger/api.Timer]"], unfollowed := true, recurses := true, plainKeys := false, apart := false, narrowed := true }
def TopUrgentUptoSaid : Prop := topUrgentUptoRow.holds Tryz.pinned (OpenSpec.upto topUrgentSpec)

end Rows
end Go.Proofs.YtcfhkbcllijnkaaGreat
