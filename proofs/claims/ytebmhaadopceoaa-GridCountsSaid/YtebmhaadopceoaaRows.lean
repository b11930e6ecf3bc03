/-
  No cell of these rows narrows 'for every input' (looked for: loops, veiled, ifaces, maps, wideKeys, modest, calm, conditions, laid).
  DERIVED. THE GIVEN ROWS OF THIS SEAT. 9 by the template 'for every input the law returns true; each argument reads behind the call as it read before'; 0 by the template 'total and deterministic' (their statements: YtebmhaadopceoaaTotals.lean).
  GIVEN WITH THE SEED: the statements are not yours to turn. If you find one false, say at which input.
  Laid BY PROGRAM, IN A SANDBOX (cutbox-rows.mjs): the forced cells as the released guide's own fill.sh prints them over the translation eeb3ab0dbb4bc5d0… (all of the seat's roots in one cut). By AI agents, Wed Nov 11 2026. No macro, syntax, notation, axiom, sorry.
-/
import Derived.Test.YtebmhaadopceoaaChecked
import GoSem.Claim
import GoSem.ClaimJoined
import GoSem.ClaimMapViews
import Derived.JoinedTies
import Derived.KernelRfl
namespace Go.Proofs.Ytebmhaadopceoaa
/- THE CELL 'sum', in the pinned program and in every row, IS THE sha256 OF THE DUMP (.gsa) THAT YtebmhaadopceoaaProg.lean LOADS. Nothing in Lean hashes anything: it is a label: what it is worth is what the hold of that sum in a sandbox is worth. -/
noncomputable def Try.pinned : Pinned := { name := "ytebmhaadopceoaa", sum := "eeb3ab0dbb4bc5d0fe70b8a1bed1e9f87d81a4f6577d772809c6b2336a44ae58", checked := Try.checked }
namespace Rows
def none {H : Type} : Left H := { results := [], args := [] }

/-- 'vergerlaw2.TickTurns': WHATEVER THE INPUT: true; the input reads as it did. -/
def tickTurnsSpec : ChangeSpec := { name := "tickTurns", fn := fun _ => fun
  | [d1, d2] => { results := [.lit (.bool true)], args := [d1, d2] }
  | _ => none }
def tickTurnsRow : OpenClaim := { program := "ytebmhaadopceoaa", sum := "eeb3ab0dbb4bc5d0fe70b8a1bed1e9f87d81a4f6577d772809c6b2336a44ae58", func := "verger/vergerlaw2.TickTurns", spec := "tickTurns", inPlace := ["math/bits.Add64"], apart := false }
def TickTurnsSaid : Prop := tickTurnsRow.holds Try.pinned (OpenSpec.ofChange tickTurnsSpec)

/-- ITS FALSE NEIGHBOUR: 'it returns false'. Refute it at one input. -/
def tickTurnsWrong : ChangeSpec := { name := "tickTurns", fn := fun _ => fun
  | [d1, d2] => { results := [.lit (.bool false)], args := [d1, d2] }
  | _ => none }
def TickTurnsWrongFalsely : Prop := tickTurnsRow.holds Try.pinned (OpenSpec.ofChange tickTurnsWrong)

/-- 'vergerlaw2.TickParts': WHATEVER THE INPUT: true; the input reads as it did. -/
def tickPartsSpec : ChangeSpec := { name := "tickParts", fn := fun _ => fun
  | [d1, d2, d3, d4, d5] => { results := [.lit (.bool true)], args := [d1, d2, d3, d4, d5] }
  | _ => none }
def tickPartsRow : OpenClaim := { program := "ytebmhaadopceoaa", sum := "eeb3ab0dbb4bc5d0fe70b8a1bed1e9f87d81a4f6577d772809c6b2336a44ae58", func := "verger/vergerlaw2.TickParts", spec := "tickParts", inPlace := ["math/bits.Add64"], apart := false }
def TickPartsSaid : Prop := tickPartsRow.holds Try.pinned (OpenSpec.ofChange tickPartsSpec)

/-- ITS FALSE NEIGHBOUR: 'it returns false'. Refute it at one input. -/
def tickPartsWrong : ChangeSpec := { name := "tickParts", fn := fun _ => fun
  | [d1, d2, d3, d4, d5] => { results := [.lit (.bool false)], args := [d1, d2, d3, d4, d5] }
  | _ => none }
def TickPartsWrongFalsely : Prop := tickPartsRow.holds Try.pinned (OpenSpec.ofChange tickPartsWrong)

/-- 'vergerlaw2.TickGrid': WHATEVER THE INPUT: true; the input reads as it did. -/
def tickGridSpec : ChangeSpec := { name := "tickGrid", fn := fun _ => fun
  | [d1, d2, d3, d4] => { results := [.lit (.bool true)], args := [d1, d2, d3, d4] }
  | _ => none }
def tickGridRow : OpenClaim := { program := "ytebmhaadopceoaa", sum := "eeb3ab0dbb4bc5d0fe70b8a1bed1e9f87d81a4f6577d772809c6b2336a44ae58", func := "verger/vergerlaw2.TickGrid", spec := "tickGrid", inPlace := ["math/bits.Add64"], apart := false }
def TickGridSaid : Prop := tickGridRow.holds Try.pinned (OpenSpec.ofChange tickGridSpec)

/-- ITS FALSE NEIGHBOUR: 'it returns false'. Refute it at one input. -/
def tickGridWrong : ChangeSpec := { name := "tickGrid", fn := fun _ => fun
  | [d1, d2, d3, d4] => { results := [.lit (.bool false)], args := [d1, d2, d3, d4] }
  | _ => none }
def TickGridWrongFalsely : Prop := tickGridRow.holds Try.pinned (OpenSpec.ofChange tickGridWrong)

/-- 'vergerlaw2.TickWalks': WHATEVER THE INPUT: true; the input reads as it did. -/
def tickWalksSpec : ChangeSpec := { name := "tickWalks", fn := fun _ => fun
  | [d1, d2, d3, d4] => { results := [.lit (.bool true)], args := [d1, d2, d3, d4] }
  | _ => none }
def tickWalksRow : OpenClaim := { program := "ytebmhaadopceoaa", sum := "eeb3ab0dbb4bc5d0fe70b8a1bed1e9f87d81a4f6577d772809c6b2336a44ae58", func := "verger/vergerlaw2.TickWalks", spec := "tickWalks", inPlace := ["math/bits.Add64"], apart := false }
def TickWalksSaid : Prop := tickWalksRow.holds Try.pinned (OpenSpec.ofChange tickWalksSpec)

/-- ITS FALSE NEIGHBOUR: 'it returns false'. Refute it at one input. -/
def tickWalksWrong : ChangeSpec := { name := "tickWalks", fn := fun _ => fun
  | [d1, d2, d3, d4] => { results := [.lit (.bool false)], args := [d1, d2, d3, d4] }
  | _ => none }
def TickWalksWrongFalsely : Prop := tickWalksRow.holds Try.pinned (OpenSpec.ofChange tickWalksWrong)

/-- 'vergerlaw2.TickProducts': WHATEVER THE INPUT: true; the input reads as it did. -/
def tickProductsSpec : ChangeSpec := { name := "tickProducts", fn := fun _ => fun
  | [d1, d2] => { results := [.lit (.bool true)], args := [d1, d2] }
  | _ => none }
def tickProductsRow : OpenClaim := { program := "ytebmhaadopceoaa", sum := "eeb3ab0dbb4bc5d0fe70b8a1bed1e9f87d81a4f6577d772809c6b2336a44ae58", func := "verger/vergerlaw2.TickProducts", spec := "tickProducts", inPlace := ["math/bits.Add64"], apart := false }
def TickProductsSaid : Prop := tickProductsRow.holds Try.pinned (OpenSpec.ofChange tickProductsSpec)

/-- ITS FALSE NEIGHBOUR: 'it returns false'. Refute it at one input. -/
def tickProductsWrong : ChangeSpec := { name := "tickProducts", fn := fun _ => fun
  | [d1, d2] => { results := [.lit (.bool false)], args := [d1, d2] }
  | _ => none }
def TickProductsWrongFalsely : Prop := tickProductsRow.holds Try.pinned (OpenSpec.ofChange tickProductsWrong)

/-- 'vergerlaw2.TickSums': WHATEVER THE INPUT: true; the input reads as it did. -/
def tickSumsSpec : ChangeSpec := { name := "tickSums", fn := fun _ => fun
  | [d1, d2, d3] => { results := [.lit (.bool true)], args := [d1, d2, d3] }
  | _ => none }
def tickSumsRow : OpenClaim := { program := "ytebmhaadopceoaa", sum := "eeb3ab0dbb4bc5d0fe70b8a1bed1e9f87d81a4f6577d772809c6b2336a44ae58", func := "verger/vergerlaw2.TickSums", spec := "tickSums", inPlace := ["math/bits.Add64"], apart := false }
def TickSumsSaid : Prop := tickSumsRow.holds Try.pinned (OpenSpec.ofChange tickSumsSpec)

/-- ITS FALSE NEIGHBOUR: 'it returns false'. Refute it at one input. -/
def tickSumsWrong : ChangeSpec := { name := "tickSums", fn := fun _ => fun
  | [d1, d2, d3] => { results := [.lit (.bool false)], args := [d1, d2, d3] }
  | _ => none }
def TickSumsWrongFalsely : Prop := tickSumsRow.holds Try.pinned (OpenSpec.ofChange tickSumsWrong)

/-- 'vergerlaw2.TickLaws': WHATEVER THE INPUT: true; the input reads as it did. -/
def tickLawsSpec : ChangeSpec := { name := "tickLaws", fn := fun _ => fun
  | [d1, d2, d3] => { results := [.lit (.bool true)], args := [d1, d2, d3] }
  | _ => none }
def tickLawsRow : OpenClaim := { program := "ytebmhaadopceoaa", sum := "eeb3ab0dbb4bc5d0fe70b8a1bed1e9f87d81a4f6577d772809c6b2336a44ae58", func := "verger/vergerlaw2.TickLaws", spec := "tickLaws", inPlace := ["math/bits.Add64"], apart := false }
def TickLawsSaid : Prop := tickLawsRow.holds Try.pinned (OpenSpec.ofChange tickLawsSpec)

/-- ITS FALSE NEIGHBOUR: 'it returns false'. Refute it at one input. -/
def tickLawsWrong : ChangeSpec := { name := "tickLaws", fn := fun _ => fun
  | [d1, d2, d3] => { results := [.lit (.bool false)], args := [d1, d2, d3] }
  | _ => none }
def TickLawsWrongFalsely : Prop := tickLawsRow.holds Try.pinned (OpenSpec.ofChange tickLawsWrong)

/-- 'vergerlaw13.GridEnds': WHATEVER THE INPUT: true; the input reads as it did. -/
def gridEndsSpec : ChangeSpec := { name := "gridEnds", fn := fun _ => fun
  | [d1, d2] => { results := [.lit (.bool true)], args := [d1, d2] }
  | _ => none }
def gridEndsRow : OpenClaim := { program := "ytebmhaadopceoaa", sum := "eeb3ab0dbb4bc5d0fe70b8a1bed1e9f87d81a4f6577d772809c6b2336a44ae58", func := "verger/vergerlaw13.GridEnds", spec := "gridEnds", inPlace := ["math/bits.Add64"], apart := false }
def GridEndsSaid : Prop := gridEndsRow.holds Try.pinned (OpenSpec.ofChange gridEndsSpec)

/-- ITS FALSE NEIGHBOUR: 'it returns false'. Refute it at one input. -/
def gridEndsWrong : ChangeSpec := { name := "gridEnds", fn := fun _ => fun
  | [d1, d2] => { results := [.lit (.bool false)], args := [d1, d2] }
  | _ => none }
def GridEndsWrongFalsely : Prop := gridEndsRow.holds Try.pinned (OpenSpec.ofChange gridEndsWrong)

/-- 'vergerlaw13.GridCounts': WHATEVER THE INPUT: true; the input reads as it did. -/
def gridCountsSpec : ChangeSpec := { name := "gridCounts", fn := fun _ => fun
  | [d1, d2, d3] => { results := [.lit (.bool true)], args := [d1, d2, d3] }
  | _ => none }
def gridCountsRow : OpenClaim := { program := "ytebmhaadopceoaa", sum := "eeb3ab0dbb4bc5d0fe70b8a1bed1e9f87d81a4f6577d772809c6b2336a44ae58", func := "verger/vergerlaw13.GridCounts", spec := "gridCounts", inPlace := ["math/bits.Add64"], apart := false }
def GridCountsSaid : Prop := gridCountsRow.holds Try.pinned (OpenSpec.ofChange gridCountsSpec)

/-- ITS FALSE NEIGHBOUR: 'it returns false'. Refute it at one input. -/
def gridCountsWrong : ChangeSpec := { name := "gridCounts", fn := fun _ => fun
  | [d1, d2, d3] => { results := [.lit (.bool false)], args := [d1, d2, d3] }
  | _ => none }
def GridCountsWrongFalsely : Prop := gridCountsRow.holds Try.pinned (OpenSpec.ofChange gridCountsWrong)

/- THE SECOND FORM. 'bulk': how many values and letters a reading holds, each counted each time it is reached (what is shared counts as often as it is met; a slice's spare places count too). A statement '..UptoSaid' is the law's where the arguments, and the package variables that the reading takes, are together of bulk at most 1048576: NARROWER than '..Said'. Prove '..Said' where nothing that the law and all that it calls make is longer than what came in: it says more and counts as full. Else prove '..UptoSaid'. A law counts once. -/
mutual
def uptoBulk {H : Type} : DataW H → Nat
  | .lit (.string bytes) => bytes.length + 1
  | .lit _ => 1
  | .nil => 1
  | .ptr d => uptoBulk d + 1
  | .slice elems spare => uptoBulkAll elems + uptoBulkAll spare + 1
  | .agg parts => uptoBulkAll parts + 1
  | .iface _ d => uptoBulk d + 1
  | .map entries => uptoBulkEntries entries + 1
  | .held _ => 1
def uptoBulkAll {H : Type} : List (DataW H) → Nat
  | [] => 0
  | d :: r => uptoBulk d + uptoBulkAll r
def uptoBulkEntries {H : Type} : List (Lit × DataW H) → Nat
  | [] => 0
  | x :: r => uptoBulkEntry x + uptoBulkEntries r
def uptoBulkEntry {H : Type} : Lit × DataW H → Nat
  | (.string bytes, d) => bytes.length + uptoBulk d + 1
  | (_, d) => uptoBulk d + 1
 end
def uptoSmall : (H : Type) → List (DataW H) → Bool := fun _ ds => decide (uptoBulkAll ds ≤ 1048576)
def OpenSpec.upto (s : _root_.Go.ChangeSpec) : _root_.Go.OpenSpec := { _root_.Go.OpenSpec.ofChange s with cond := some uptoSmall }

/-- 'vergerlaw2.TickTurns', WHERE WHAT IT READS IS OF BULK AT MOST 1048576: true; the input reads as it did. -/
def tickTurnsUptoRow : OpenClaim := { program := "ytebmhaadopceoaa", sum := "eeb3ab0dbb4bc5d0fe70b8a1bed1e9f87d81a4f6577d772809c6b2336a44ae58", func := "verger/vergerlaw2.TickTurns", spec := "tickTurns", inPlace := ["math/bits.Add64"], apart := false, narrowed := true }
def TickTurnsUptoSaid : Prop := tickTurnsUptoRow.holds Try.pinned (OpenSpec.upto tickTurnsSpec)

/-- 'vergerlaw2.TickParts', WHERE WHAT IT READS IS OF BULK AT MOST 1048576: true; the input reads as it did. -/
def tickPartsUptoRow : OpenClaim := { program := "ytebmhaadopceoaa", sum := "eeb3ab0dbb4bc5d0fe70b8a1bed1e9f87d81a4f6577d772809c6b2336a44ae58", func := "verger/vergerlaw2.TickParts", spec := "tickParts", inPlace := ["math/bits.Add64"], apart := false, narrowed := true }
def TickPartsUptoSaid : Prop := tickPartsUptoRow.holds Try.pinned (OpenSpec.upto tickPartsSpec)

/-- 'vergerlaw2.TickGrid', WHERE WHAT IT READS IS OF BULK AT MOST 1048576: true; the input reads as it did. -/
def tickGridUptoRow : OpenClaim := { program := "ytebmhaadopceoaa", sum := "eeb3ab0dbb4bc5d0fe70b8a1bed1e9f87d81a4f6577d772809c6b2336a44ae58", func := "verger/vergerlaw2.TickGrid", spec := "tickGrid", inPlace := ["math/bits.Add64"], apart := false, narrowed := true }
def TickGridUptoSaid : Prop := tickGridUptoRow.holds Try.pinned (OpenSpec.upto tickGridSpec)

/-- 'vergerlaw2.TickWalks', WHERE WHAT IT READS IS OF BULK AT MOST 1048576: true; the input reads as it did. -/
def tickWalksUptoRow : OpenClaim := { program := "ytebmhaadopceoaa", sum := "eeb3ab0dbb4bc5d0fe70b8a1bed1e9f87d81a4f6577d772809c6b2336a44ae58", func := "verger/vergerlaw2.TickWalks", spec := "tickWalks", inPlace := ["math/bits.Add64"], apart := false, narrowed := true }
def TickWalksUptoSaid : Prop := tickWalksUptoRow.holds Try.pinned (OpenSpec.upto tickWalksSpec)

/-- 'vergerlaw2.TickProducts', WHERE WHAT IT READS IS OF BULK AT MOST 1048576: true; the input reads as it did. -/
def tickProductsUptoRow : OpenClaim := { program := "ytebmhaadopceoaa", sum := "eeb3ab0dbb4bc5d0fe70b8a1bed1e9f87d81a4f6577d772809c6b2336a44ae58", func := "verger/vergerlaw2.TickProducts", spec := "tickProducts", inPlace := ["math/bits.Add64"], apart := false, narrowed := true }
def TickProductsUptoSaid : Prop := tickProductsUptoRow.holds Try.pinned (OpenSpec.upto tickProductsSpec)

/-- 'vergerlaw2.TickSums', WHERE WHAT IT READS IS OF BULK AT MOST 1048576: true; the input reads as it did. -/
def tickSumsUptoRow : OpenClaim := { program := "ytebmhaadopceoaa", sum := "eeb3ab0dbb4bc5d0fe70b8a1bed1e9f87d81a4f6577d772809c6b2336a44ae58", func := "verger/vergerlaw2.TickSums", spec := "tickSums", inPlace := ["math/bits.Add64"], apart := false, narrowed := true }
def TickSumsUptoSaid : Prop := tickSumsUptoRow.holds Try.pinned (OpenSpec.upto tickSumsSpec)

/-- 'vergerlaw2.TickLaws', WHERE WHAT IT READS IS OF BULK AT MOST 1048576: true; the input reads as it did. -/
def tickLawsUptoRow : OpenClaim := { program := "ytebmhaadopceoaa", sum := "eeb3ab0dbb4bc5d0fe70b8a1bed1e9f87d81a4f6577d772809c6b2336a44ae58", func := "verger/vergerlaw2.TickLaws", spec := "tickLaws", inPlace := ["math/bits.Add64"], apart := false, narrowed := true }
def TickLawsUptoSaid : Prop := tickLawsUptoRow.holds Try.pinned (OpenSpec.upto tickLawsSpec)

/-- 'vergerlaw13.GridEnds', WHERE WHAT IT READS IS OF BULK AT MOST 1048576: true; the input reads as it did. -/
def gridEndsUptoRow : OpenClaim := { program := "ytebmhaadopceoaa", sum := "eeb3ab0dbb4bc5d0fe70b8a1bed1e9f87d81a4f6577d772809c6b2336a44ae58", func := "verger/vergerlaw13.GridEnds", spec := "gridEnds", inPlace := ["math/bits.Add64"], apart := false, narrowed := true }
def GridEndsUptoSaid : Prop := gridEndsUptoRow.holds Try.pinned (OpenSpec.upto gridEndsSpec)

/-- 'vergerlaw13.GridCounts', WHERE WHAT IT READS IS OF BULK AT MOST 1048576: true; the input reads as it did. -/
def gridCountsUptoRow : OpenClaim := { program := "ytebmhaadopceoaa", sum := "eeb3ab0dbb4bc5d0fe70b8a1bed1e9f87d81a4f6577d772809c6b2336a44ae58", func := "verger/vergerlaw13.GridCounts", spec := "gridCounts", inPlace := ["math/bits.Add64"], apart := false, narrowed := true }
def GridCountsUptoSaid : Prop := gridCountsUptoRow.holds Try.pinned (OpenSpec.upto gridCountsSpec)

end Rows
end Go.Proofs.Ytebmhaadopceoaa
