/-
  No cell of these rows narrows 'for every input' (looked for: loops, veiled, ifaces, maps, wideKeys, modest, calm, conditions, laid).
  DERIVED. THE GIVEN ROWS OF THIS SEAT. 15 by the template 'for every input the law returns true; each argument reads behind the call as it read before'; 0 by the template 'total and deterministic' (their statements: YtpcbcnheogjofaaTotals.lean).
  GIVEN WITH THE SEED: the statements are not yours to turn. If you find one false, say at which input.
  Laid BY PROGRAM, IN A SANDBOX (cutbox-rows.mjs): the forced cells as the released guide's own fill.sh prints them over the translation 634b2ea0cdabe2e6… (all of the seat's roots in one cut). By AI agents, Wed Nov 11 2026. No macro, syntax, notation, axiom, sorry.
-/
import Derived.Test.YtpcbcnheogjofaaChecked
import GoSem.Claim
import GoSem.ClaimJoined
import GoSem.ClaimMapViews
import Derived.JoinedTies
import Derived.KernelRfl
namespace Go.Proofs.Ytpcbcnheogjofaa
/- THE CELL 'sum', in the pinned program and in every row, IS THE sha256 OF THE DUMP (.gsa) THAT YtpcbcnheogjofaaProg.lean LOADS. Nothing in Lean hashes anything: it is a label: what it is worth is what the hold of that sum in a sandbox is worth. -/
noncomputable def Try.pinned : Pinned := { name := "ytpcbcnheogjofaa", sum := "634b2ea0cdabe2e6be7fe4ea33bf7cb7a62ace43ddd139065e80559915ced02d", checked := Try.checked }
namespace Rows
def none {H : Type} : Left H := { results := [], args := [] }

/-- 'vergerlaw3.CellRaces': WHATEVER THE INPUT: true; the input reads as it did. -/
def cellRacesSpec : ChangeSpec := { name := "cellRaces", fn := fun _ => fun
  | [d1, d2] => { results := [.lit (.bool true)], args := [d1, d2] }
  | _ => none }
def cellRacesRow : OpenClaim := { program := "ytpcbcnheogjofaa", sum := "634b2ea0cdabe2e6be7fe4ea33bf7cb7a62ace43ddd139065e80559915ced02d", func := "verger/vergerlaw3.CellRaces", spec := "cellRaces", plainKeys := false, apart := false }
def CellRacesSaid : Prop := cellRacesRow.holds Try.pinned (OpenSpec.ofChange cellRacesSpec)

/-- ITS FALSE NEIGHBOUR: 'it returns false'. Refute it at one input. -/
def cellRacesWrong : ChangeSpec := { name := "cellRaces", fn := fun _ => fun
  | [d1, d2] => { results := [.lit (.bool false)], args := [d1, d2] }
  | _ => none }
def CellRacesWrongFalsely : Prop := cellRacesRow.holds Try.pinned (OpenSpec.ofChange cellRacesWrong)

/-- 'vergerlaw3.CellSums': WHATEVER THE INPUT: true; the input reads as it did. -/
def cellSumsSpec : ChangeSpec := { name := "cellSums", fn := fun _ => fun
  | [d1, d2] => { results := [.lit (.bool true)], args := [d1, d2] }
  | _ => none }
def cellSumsRow : OpenClaim := { program := "ytpcbcnheogjofaa", sum := "634b2ea0cdabe2e6be7fe4ea33bf7cb7a62ace43ddd139065e80559915ced02d", func := "verger/vergerlaw3.CellSums", spec := "cellSums", plainKeys := false, apart := false }
def CellSumsSaid : Prop := cellSumsRow.holds Try.pinned (OpenSpec.ofChange cellSumsSpec)

/-- ITS FALSE NEIGHBOUR: 'it returns false'. Refute it at one input. -/
def cellSumsWrong : ChangeSpec := { name := "cellSums", fn := fun _ => fun
  | [d1, d2] => { results := [.lit (.bool false)], args := [d1, d2] }
  | _ => none }
def CellSumsWrongFalsely : Prop := cellSumsRow.holds Try.pinned (OpenSpec.ofChange cellSumsWrong)

/-- 'vergerlaw3.CellApart': WHATEVER THE INPUT: true; the input reads as it did. -/
def cellApartSpec : ChangeSpec := { name := "cellApart", fn := fun _ => fun
  | [d1, d2] => { results := [.lit (.bool true)], args := [d1, d2] }
  | _ => none }
def cellApartRow : OpenClaim := { program := "ytpcbcnheogjofaa", sum := "634b2ea0cdabe2e6be7fe4ea33bf7cb7a62ace43ddd139065e80559915ced02d", func := "verger/vergerlaw3.CellApart", spec := "cellApart", plainKeys := false, apart := false }
def CellApartSaid : Prop := cellApartRow.holds Try.pinned (OpenSpec.ofChange cellApartSpec)

/-- ITS FALSE NEIGHBOUR: 'it returns false'. Refute it at one input. -/
def cellApartWrong : ChangeSpec := { name := "cellApart", fn := fun _ => fun
  | [d1, d2] => { results := [.lit (.bool false)], args := [d1, d2] }
  | _ => none }
def CellApartWrongFalsely : Prop := cellApartRow.holds Try.pinned (OpenSpec.ofChange cellApartWrong)

/-- 'vergerlaw3.CellPlays': WHATEVER THE INPUT: true; the input reads as it did. -/
def cellPlaysSpec : ChangeSpec := { name := "cellPlays", fn := fun _ => fun
  | [d1, d2] => { results := [.lit (.bool true)], args := [d1, d2] }
  | _ => none }
def cellPlaysRow : OpenClaim := { program := "ytpcbcnheogjofaa", sum := "634b2ea0cdabe2e6be7fe4ea33bf7cb7a62ace43ddd139065e80559915ced02d", func := "verger/vergerlaw3.CellPlays", spec := "cellPlays", plainKeys := false, apart := false }
def CellPlaysSaid : Prop := cellPlaysRow.holds Try.pinned (OpenSpec.ofChange cellPlaysSpec)

/-- ITS FALSE NEIGHBOUR: 'it returns false'. Refute it at one input. -/
def cellPlaysWrong : ChangeSpec := { name := "cellPlays", fn := fun _ => fun
  | [d1, d2] => { results := [.lit (.bool false)], args := [d1, d2] }
  | _ => none }
def CellPlaysWrongFalsely : Prop := cellPlaysRow.holds Try.pinned (OpenSpec.ofChange cellPlaysWrong)

/-- 'vergerlaw15.CreditMost': WHATEVER THE INPUT: true; the input reads as it did. -/
def creditMostSpec : ChangeSpec := { name := "creditMost", fn := fun _ => fun
  | [d1, d2] => { results := [.lit (.bool true)], args := [d1, d2] }
  | _ => none }
def creditMostRow : OpenClaim := { program := "ytpcbcnheogjofaa", sum := "634b2ea0cdabe2e6be7fe4ea33bf7cb7a62ace43ddd139065e80559915ced02d", func := "verger/vergerlaw15.CreditMost", spec := "creditMost", plainKeys := false, apart := false }
def CreditMostSaid : Prop := creditMostRow.holds Try.pinned (OpenSpec.ofChange creditMostSpec)

/-- ITS FALSE NEIGHBOUR: 'it returns false'. Refute it at one input. -/
def creditMostWrong : ChangeSpec := { name := "creditMost", fn := fun _ => fun
  | [d1, d2] => { results := [.lit (.bool false)], args := [d1, d2] }
  | _ => none }
def CreditMostWrongFalsely : Prop := creditMostRow.holds Try.pinned (OpenSpec.ofChange creditMostWrong)

/-- 'vergerlaw15.CreditPlays': WHATEVER THE INPUT: true; the input reads as it did. -/
def creditPlaysSpec : ChangeSpec := { name := "creditPlays", fn := fun _ => fun
  | [d1, d2] => { results := [.lit (.bool true)], args := [d1, d2] }
  | _ => none }
def creditPlaysRow : OpenClaim := { program := "ytpcbcnheogjofaa", sum := "634b2ea0cdabe2e6be7fe4ea33bf7cb7a62ace43ddd139065e80559915ced02d", func := "verger/vergerlaw15.CreditPlays", spec := "creditPlays", plainKeys := false, apart := false }
def CreditPlaysSaid : Prop := creditPlaysRow.holds Try.pinned (OpenSpec.ofChange creditPlaysSpec)

/-- ITS FALSE NEIGHBOUR: 'it returns false'. Refute it at one input. -/
def creditPlaysWrong : ChangeSpec := { name := "creditPlays", fn := fun _ => fun
  | [d1, d2] => { results := [.lit (.bool false)], args := [d1, d2] }
  | _ => none }
def CreditPlaysWrongFalsely : Prop := creditPlaysRow.holds Try.pinned (OpenSpec.ofChange creditPlaysWrong)

/-- 'vergerlaw13.GridAhead': WHATEVER THE INPUT: true; the input reads as it did. -/
def gridAheadSpec : ChangeSpec := { name := "gridAhead", fn := fun _ => fun
  | [d1, d2, d3, d4] => { results := [.lit (.bool true)], args := [d1, d2, d3, d4] }
  | _ => none }
def gridAheadRow : OpenClaim := { program := "ytpcbcnheogjofaa", sum := "634b2ea0cdabe2e6be7fe4ea33bf7cb7a62ace43ddd139065e80559915ced02d", func := "verger/vergerlaw13.GridAhead", spec := "gridAhead", inPlace := ["math/bits.Add64"], plainKeys := false, apart := false }
def GridAheadSaid : Prop := gridAheadRow.holds Try.pinned (OpenSpec.ofChange gridAheadSpec)

/-- ITS FALSE NEIGHBOUR: 'it returns false'. Refute it at one input. -/
def gridAheadWrong : ChangeSpec := { name := "gridAhead", fn := fun _ => fun
  | [d1, d2, d3, d4] => { results := [.lit (.bool false)], args := [d1, d2, d3, d4] }
  | _ => none }
def GridAheadWrongFalsely : Prop := gridAheadRow.holds Try.pinned (OpenSpec.ofChange gridAheadWrong)

/-- 'vergerlaw13.GridTells': WHATEVER THE INPUT: true; the input reads as it did. -/
def gridTellsSpec : ChangeSpec := { name := "gridTells", fn := fun _ => fun
  | [d1, d2, d3, d4, d5] => { results := [.lit (.bool true)], args := [d1, d2, d3, d4, d5] }
  | _ => none }
def gridTellsRow : OpenClaim := { program := "ytpcbcnheogjofaa", sum := "634b2ea0cdabe2e6be7fe4ea33bf7cb7a62ace43ddd139065e80559915ced02d", func := "verger/vergerlaw13.GridTells", spec := "gridTells", inPlace := ["math/bits.Add64"], plainKeys := false, apart := false }
def GridTellsSaid : Prop := gridTellsRow.holds Try.pinned (OpenSpec.ofChange gridTellsSpec)

/-- ITS FALSE NEIGHBOUR: 'it returns false'. Refute it at one input. -/
def gridTellsWrong : ChangeSpec := { name := "gridTells", fn := fun _ => fun
  | [d1, d2, d3, d4, d5] => { results := [.lit (.bool false)], args := [d1, d2, d3, d4, d5] }
  | _ => none }
def GridTellsWrongFalsely : Prop := gridTellsRow.holds Try.pinned (OpenSpec.ofChange gridTellsWrong)

/-- 'vergerlaw4.ArenaClaims': WHATEVER THE INPUT: true; the input reads as it did. -/
def arenaClaimsSpec : ChangeSpec := { name := "arenaClaims", fn := fun _ => fun
  | [d1, d2] => { results := [.lit (.bool true)], args := [d1, d2] }
  | _ => none }
def arenaClaimsRow : OpenClaim := { program := "ytpcbcnheogjofaa", sum := "634b2ea0cdabe2e6be7fe4ea33bf7cb7a62ace43ddd139065e80559915ced02d", func := "verger/vergerlaw4.ArenaClaims", spec := "arenaClaims", plainKeys := false, apart := false }
def ArenaClaimsSaid : Prop := arenaClaimsRow.holds Try.pinned (OpenSpec.ofChange arenaClaimsSpec)

/-- ITS FALSE NEIGHBOUR: 'it returns false'. Refute it at one input. -/
def arenaClaimsWrong : ChangeSpec := { name := "arenaClaims", fn := fun _ => fun
  | [d1, d2] => { results := [.lit (.bool false)], args := [d1, d2] }
  | _ => none }
def ArenaClaimsWrongFalsely : Prop := arenaClaimsRow.holds Try.pinned (OpenSpec.ofChange arenaClaimsWrong)

/-- 'vergerlaw4.ArenaOld': WHATEVER THE INPUT: true; the input reads as it did. -/
def arenaOldSpec : ChangeSpec := { name := "arenaOld", fn := fun _ => fun
  | [d] => { results := [.lit (.bool true)], args := [d] }
  | _ => none }
def arenaOldRow : OpenClaim := { program := "ytpcbcnheogjofaa", sum := "634b2ea0cdabe2e6be7fe4ea33bf7cb7a62ace43ddd139065e80559915ced02d", func := "verger/vergerlaw4.ArenaOld", spec := "arenaOld", plainKeys := false, apart := false }
def ArenaOldSaid : Prop := arenaOldRow.holds Try.pinned (OpenSpec.ofChange arenaOldSpec)

/-- ITS FALSE NEIGHBOUR: 'it returns false'. Refute it at one input. -/
def arenaOldWrong : ChangeSpec := { name := "arenaOld", fn := fun _ => fun
  | [d] => { results := [.lit (.bool false)], args := [d] }
  | _ => none }
def ArenaOldWrongFalsely : Prop := arenaOldRow.holds Try.pinned (OpenSpec.ofChange arenaOldWrong)

/-- 'vergerlaw4.ArenaFills': WHATEVER THE INPUT: true; the input reads as it did. -/
def arenaFillsSpec : ChangeSpec := { name := "arenaFills", fn := fun _ => fun
  | [d1, d2] => { results := [.lit (.bool true)], args := [d1, d2] }
  | _ => none }
def arenaFillsRow : OpenClaim := { program := "ytpcbcnheogjofaa", sum := "634b2ea0cdabe2e6be7fe4ea33bf7cb7a62ace43ddd139065e80559915ced02d", func := "verger/vergerlaw4.ArenaFills", spec := "arenaFills", plainKeys := false, apart := false }
def ArenaFillsSaid : Prop := arenaFillsRow.holds Try.pinned (OpenSpec.ofChange arenaFillsSpec)

/-- ITS FALSE NEIGHBOUR: 'it returns false'. Refute it at one input. -/
def arenaFillsWrong : ChangeSpec := { name := "arenaFills", fn := fun _ => fun
  | [d1, d2] => { results := [.lit (.bool false)], args := [d1, d2] }
  | _ => none }
def ArenaFillsWrongFalsely : Prop := arenaFillsRow.holds Try.pinned (OpenSpec.ofChange arenaFillsWrong)

/-- 'vergerlaw4.ArenaPlays': WHATEVER THE INPUT: true; the input reads as it did. -/
def arenaPlaysSpec : ChangeSpec := { name := "arenaPlays", fn := fun _ => fun
  | [d1, d2] => { results := [.lit (.bool true)], args := [d1, d2] }
  | _ => none }
def arenaPlaysRow : OpenClaim := { program := "ytpcbcnheogjofaa", sum := "634b2ea0cdabe2e6be7fe4ea33bf7cb7a62ace43ddd139065e80559915ced02d", func := "verger/vergerlaw4.ArenaPlays", spec := "arenaPlays", plainKeys := false, apart := false }
def ArenaPlaysSaid : Prop := arenaPlaysRow.holds Try.pinned (OpenSpec.ofChange arenaPlaysSpec)

/-- ITS FALSE NEIGHBOUR: 'it returns false'. Refute it at one input. -/
def arenaPlaysWrong : ChangeSpec := { name := "arenaPlays", fn := fun _ => fun
  | [d1, d2] => { results := [.lit (.bool false)], args := [d1, d2] }
  | _ => none }
def ArenaPlaysWrongFalsely : Prop := arenaPlaysRow.holds Try.pinned (OpenSpec.ofChange arenaPlaysWrong)

/-- 'vergerlaw17.TableCounts': WHATEVER THE INPUT: true; the input reads as it did. -/
def tableCountsSpec : ChangeSpec := { name := "tableCounts", fn := fun _ => fun
  | [d1, d2] => { results := [.lit (.bool true)], args := [d1, d2] }
  | _ => none }
def tableCountsRow : OpenClaim := { program := "ytpcbcnheogjofaa", sum := "634b2ea0cdabe2e6be7fe4ea33bf7cb7a62ace43ddd139065e80559915ced02d", func := "verger/vergerlaw17.TableCounts", spec := "tableCounts", unfollowed := true, recurses := true, plainKeys := false, apart := false }
def TableCountsSaid : Prop := tableCountsRow.holds Try.pinned (OpenSpec.ofChange tableCountsSpec)

/-- ITS FALSE NEIGHBOUR: 'it returns false'. Refute it at one input. -/
def tableCountsWrong : ChangeSpec := { name := "tableCounts", fn := fun _ => fun
  | [d1, d2] => { results := [.lit (.bool false)], args := [d1, d2] }
  | _ => none }
def TableCountsWrongFalsely : Prop := tableCountsRow.holds Try.pinned (OpenSpec.ofChange tableCountsWrong)

/-- 'vergerlaw17.TableAgain': WHATEVER THE INPUT: true; the input reads as it did. -/
def tableAgainSpec : ChangeSpec := { name := "tableAgain", fn := fun _ => fun
  | [d1, d2, d3] => { results := [.lit (.bool true)], args := [d1, d2, d3] }
  | _ => none }
def tableAgainRow : OpenClaim := { program := "ytpcbcnheogjofaa", sum := "634b2ea0cdabe2e6be7fe4ea33bf7cb7a62ace43ddd139065e80559915ced02d", func := "verger/vergerlaw17.TableAgain", spec := "tableAgain", inPlace := ["math/bits.Add64"], unfollowed := true, recurses := true, plainKeys := false, apart := false }
def TableAgainSaid : Prop := tableAgainRow.holds Try.pinned (OpenSpec.ofChange tableAgainSpec)

/-- ITS FALSE NEIGHBOUR: 'it returns false'. Refute it at one input. -/
def tableAgainWrong : ChangeSpec := { name := "tableAgain", fn := fun _ => fun
  | [d1, d2, d3] => { results := [.lit (.bool false)], args := [d1, d2, d3] }
  | _ => none }
def TableAgainWrongFalsely : Prop := tableAgainRow.holds Try.pinned (OpenSpec.ofChange tableAgainWrong)

/-- 'vergerlaw17.TablePlays': WHATEVER THE INPUT: true; the input reads as it did. -/
def tablePlaysSpec : ChangeSpec := { name := "tablePlays", fn := fun _ => fun
  | [d1, d2] => { results := [.lit (.bool true)], args := [d1, d2] }
  | _ => none }
def tablePlaysRow : OpenClaim := { program := "ytpcbcnheogjofaa", sum := "634b2ea0cdabe2e6be7fe4ea33bf7cb7a62ace43ddd139065e80559915ced02d", func := "verger/vergerlaw17.TablePlays", spec := "tablePlays", inPlace := ["math/bits.Add64"], unfollowed := true, recurses := true, plainKeys := false, apart := false }
def TablePlaysSaid : Prop := tablePlaysRow.holds Try.pinned (OpenSpec.ofChange tablePlaysSpec)

/-- ITS FALSE NEIGHBOUR: 'it returns false'. Refute it at one input. -/
def tablePlaysWrong : ChangeSpec := { name := "tablePlays", fn := fun _ => fun
  | [d1, d2] => { results := [.lit (.bool false)], args := [d1, d2] }
  | _ => none }
def TablePlaysWrongFalsely : Prop := tablePlaysRow.holds Try.pinned (OpenSpec.ofChange tablePlaysWrong)

/- THE SECOND FORM. 'bulk': how many values and letters a reading holds, each counted each time it is reached (what is shared counts as often as it is met; a slice's spare places count too). A statement '..UptoSaid' is the law's where the arguments, and the package variables that the reading takes, are together of bulk at most 1048576: NARROWER than '..Said'. Prove '..Said' where nothing that the law and all that it calls make is longer than what came in: it says more and counts as full. Else prove '..UptoSaid'. A law counts once. -/
mutual
def uptoBulk {H : Type} : DataW H → Nat
  | .lit (.string bytes) => bytes.length + 1
  | .lit _ => 1
  | .nil => 1
  | .ptr d => uptoBulk d + 1
  | .slice elems spare => uptoBulkAll elems + uptoBulkAll spare + 1
  | .agg parts => uptoBulkAll parts + 1
  | .iface _ d => uptoBulk d + 1
  | .map entries => uptoBulkEntries entries + 1
  | .held _ => 1
def uptoBulkAll {H : Type} : List (DataW H) → Nat
  | [] => 0
  | d :: r => uptoBulk d + uptoBulkAll r
def uptoBulkEntries {H : Type} : List (Lit × DataW H) → Nat
  | [] => 0
  | x :: r => uptoBulkEntry x + uptoBulkEntries r
def uptoBulkEntry {H : Type} : Lit × DataW H → Nat
  | (.string bytes, d) => bytes.length + uptoBulk d + 1
  | (_, d) => uptoBulk d + 1
 end
def uptoSmall : (H : Type) → List (DataW H) → Bool := fun _ ds => decide (uptoBulkAll ds ≤ 1048576)
def OpenSpec.upto (s : _root_.Go.ChangeSpec) : _root_.Go.OpenSpec := { _root_.Go.OpenSpec.ofChange s with cond := some uptoSmall }

/-- 'vergerlaw3.CellRaces', WHERE WHAT IT READS IS OF BULK AT MOST 1048576: true; the input reads as it did. -/
def cellRacesUptoRow : OpenClaim := { program := "ytpcbcnheogjofaa", sum := "634b2ea0cdabe2e6be7fe4ea33bf7cb7a62ace43ddd139065e80559915ced02d", func := "verger/vergerlaw3.CellRaces", spec := "cellRaces", plainKeys := false, apart := false, narrowed := true }
def CellRacesUptoSaid : Prop := cellRacesUptoRow.holds Try.pinned (OpenSpec.upto cellRacesSpec)

/-- 'vergerlaw3.CellSums', WHERE WHAT IT READS IS OF BULK AT MOST 1048576: true; the input reads as it did. -/
def cellSumsUptoRow : OpenClaim := { program := "ytpcbcnheogjofaa", sum := "634b2ea0cdabe2e6be7fe4ea33bf7cb7a62ace43ddd139065e80559915ced02d", func := "verger/vergerlaw3.CellSums", spec := "cellSums", plainKeys := false, apart := false, narrowed := true }
def CellSumsUptoSaid : Prop := cellSumsUptoRow.holds Try.pinned (OpenSpec.upto cellSumsSpec)

/-- 'vergerlaw3.CellApart', WHERE WHAT IT READS IS OF BULK AT MOST 1048576: true; the input reads as it did. -/
def cellApartUptoRow : OpenClaim := { program := "ytpcbcnheogjofaa", sum := "634b2ea0cdabe2e6be7fe4ea33bf7cb7a62ace43ddd139065e80559915ced02d", func := "verger/vergerlaw3.CellApart", spec := "cellApart", plainKeys := false, apart := false, narrowed := true }
def CellApartUptoSaid : Prop := cellApartUptoRow.holds Try.pinned (OpenSpec.upto cellApartSpec)

/-- 'vergerlaw3.CellPlays', WHERE WHAT IT READS IS OF BULK AT MOST 1048576: true; the input reads as it did. -/
def cellPlaysUptoRow : OpenClaim := { program := "ytpcbcnheogjofaa", sum := "634b2ea0cdabe2e6be7fe4ea33bf7cb7a62ace43ddd139065e80559915ced02d", func := "verger/vergerlaw3.CellPlays", spec := "cellPlays", plainKeys := false, apart := false, narrowed := true }
def CellPlaysUptoSaid : Prop := cellPlaysUptoRow.holds Try.pinned (OpenSpec.upto cellPlaysSpec)

/-- 'vergerlaw15.CreditMost', WHERE WHAT IT READS IS OF BULK AT MOST 1048576: true; the input reads as it did. -/
def creditMostUptoRow : OpenClaim := { program := "ytpcbcnheogjofaa", sum := "634b2ea0cdabe2e6be7fe4ea33bf7cb7a62ace43ddd139065e80559915ced02d", func := "verger/vergerlaw15.CreditMost", spec := "creditMost", plainKeys := false, apart := false, narrowed := true }
def CreditMostUptoSaid : Prop := creditMostUptoRow.holds Try.pinned (OpenSpec.upto creditMostSpec)

/-- 'vergerlaw15.CreditPlays', WHERE WHAT IT READS IS OF BULK AT MOST 1048576: true; the input reads as it did. -/
def creditPlaysUptoRow : OpenClaim := { program := "ytpcbcnheogjofaa", sum := "634b2ea0cdabe2e6be7fe4ea33bf7cb7a62ace43ddd139065e80559915ced02d", func := "verger/vergerlaw15.CreditPlays", spec := "creditPlays", plainKeys := false, apart := false, narrowed := true }
def CreditPlaysUptoSaid : Prop := creditPlaysUptoRow.holds Try.pinned (OpenSpec.upto creditPlaysSpec)

/-- 'vergerlaw13.GridAhead', WHERE WHAT IT READS IS OF BULK AT MOST 1048576: true; the input reads as it did. -/
def gridAheadUptoRow : OpenClaim := { program := "ytpcbcnheogjofaa", sum := "634b2ea0cdabe2e6be7fe4ea33bf7cb7a62ace43ddd139065e80559915ced02d", func := "verger/vergerlaw13.GridAhead", spec := "gridAhead", inPlace := ["math/bits.Add64"], plainKeys := false, apart := false, narrowed := true }
def GridAheadUptoSaid : Prop := gridAheadUptoRow.holds Try.pinned (OpenSpec.upto gridAheadSpec)

/-- 'vergerlaw13.GridTells', WHERE WHAT IT READS IS OF BULK AT MOST 1048576: true; the input reads as it did. -/
def gridTellsUptoRow : OpenClaim := { program := "ytpcbcnheogjofaa", sum := "634b2ea0cdabe2e6be7fe4ea33bf7cb7a62ace43ddd139065e80559915ced02d", func := "verger/vergerlaw13.GridTells", spec := "gridTells", inPlace := ["math/bits.Add64"], plainKeys := false, apart := false, narrowed := true }
def GridTellsUptoSaid : Prop := gridTellsUptoRow.holds Try.pinned (OpenSpec.upto gridTellsSpec)

/-- 'vergerlaw4.ArenaClaims', WHERE WHAT IT READS IS OF BULK AT MOST 1048576: true; the input reads as it did. -/
def arenaClaimsUptoRow : OpenClaim := { program := "ytpcbcnheogjofaa", sum := "634b2ea0cdabe2e6be7fe4ea33bf7cb7a62ace43ddd139065e80559915ced02d", func := "verger/vergerlaw4.ArenaClaims", spec := "arenaClaims", plainKeys := false, apart := false, narrowed := true }
def ArenaClaimsUptoSaid : Prop := arenaClaimsUptoRow.holds Try.pinned (OpenSpec.upto arenaClaimsSpec)

/-- 'vergerlaw4.ArenaOld', WHERE WHAT IT READS IS OF BULK AT MOST 1048576: true; the input reads as it did. -/
def arenaOldUptoRow : OpenClaim := { program := "ytpcbcnheogjofaa", sum := "634b2ea0cdabe2e6be7fe4ea33bf7cb7a62ace43ddd139065e80559915ced02d", func := "verger/vergerlaw4.ArenaOld", spec := "arenaOld", plainKeys := false, apart := false, narrowed := true }
def ArenaOldUptoSaid : Prop := arenaOldUptoRow.holds Try.pinned (OpenSpec.upto arenaOldSpec)

/-- 'vergerlaw4.ArenaFills', WHERE WHAT IT READS IS OF BULK AT MOST 1048576: true; the input reads as it did. -/
def arenaFillsUptoRow : OpenClaim := { program := "ytpcbcnheogjofaa", sum := "634b2ea0cdabe2e6be7fe4ea33bf7cb7a62ace43ddd139065e80559915ced02d", func := "verger/vergerlaw4.ArenaFills", spec := "arenaFills", plainKeys := false, apart := false, narrowed := true }
def ArenaFillsUptoSaid : Prop := arenaFillsUptoRow.holds Try.pinned (OpenSpec.upto arenaFillsSpec)

/-- 'vergerlaw4.ArenaPlays', WHERE WHAT IT READS IS OF BULK AT MOST 1048576: true; the input reads as it did. -/
def arenaPlaysUptoRow : OpenClaim := { program := "ytpcbcnheogjofaa", sum := "634b2ea0cdabe2e6be7fe4ea33bf7cb7a62ace43ddd139065e80559915ced02d", func := "verger/vergerlaw4.ArenaPlays", spec := "arenaPlays", plainKeys := false, apart := false, narrowed := true }
def ArenaPlaysUptoSaid : Prop := arenaPlaysUptoRow.holds Try.pinned (OpenSpec.upto arenaPlaysSpec)

/-- 'vergerlaw17.TableCounts', WHERE WHAT IT READS IS OF BULK AT MOST 1048576: true; the input reads as it did. -/
def tableCountsUptoRow : OpenClaim := { program := "ytpcbcnheogjofaa", sum := "634b2ea0cdabe2e6be7fe4ea33bf7cb7a62ace43ddd139065e80559915ced02d", func := "verger/vergerlaw17.TableCounts", spec := "tableCounts", unfollowed := true, recurses := true, plainKeys := false, apart := false, narrowed := true }
def TableCountsUptoSaid : Prop := tableCountsUptoRow.holds Try.pinned (OpenSpec.upto tableCountsSpec)

/-- 'vergerlaw17.TableAgain', WHERE WHAT IT READS IS OF BULK AT MOST 1048576: true; the input reads as it did. -/
def tableAgainUptoRow : OpenClaim := { program := "ytpcbcnheogjofaa", sum := "634b2ea0cdabe2e6be7fe4ea33bf7cb7a62ace43ddd139065e80559915ced02d", func := "verger/vergerlaw17.TableAgain", spec := "tableAgain", inPlace := ["math/bits.Add64"], unfollowed := true, recurses := true, plainKeys := false, apart := false, narrowed := true }
def TableAgainUptoSaid : Prop := tableAgainUptoRow.holds Try.pinned (OpenSpec.upto tableAgainSpec)

/-- 'vergerlaw17.TablePlays', WHERE WHAT IT READS IS OF BULK AT MOST 1048576: true; the input reads as it did. -/
def tablePlaysUptoRow : OpenClaim := { program := "ytpcbcnheogjofaa", sum := "634b2ea0cdabe2e6be7fe4ea33bf7cb7a62ace43ddd139065e80559915ced02d", func := "verger/vergerlaw17.TablePlays", spec := "tablePlays", inPlace := ["math/bits.Add64"], unfollowed := true, recurses := true, plainKeys := false, apart := false, narrowed := true }
def TablePlaysUptoSaid : Prop := tablePlaysUptoRow.holds Try.pinned (OpenSpec.upto tablePlaysSpec)

end Rows
end Go.Proofs.Ytpcbcnheogjofaa
