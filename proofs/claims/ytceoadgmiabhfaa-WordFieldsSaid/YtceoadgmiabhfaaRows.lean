/-
  No cell of these rows narrows 'for every input' (looked for: loops, veiled, ifaces, maps, wideKeys, modest, calm, conditions, laid).
  DERIVED. THE GIVEN ROWS OF THIS SEAT. 10 by the template 'for every input the law returns true; each argument reads behind the call as it read before'; 0 by the template 'total and deterministic' (their statements: YtceoadgmiabhfaaTotals.lean).
  GIVEN WITH THE SEED: the statements are not yours to turn. If you find one false, say at which input.
  Laid BY PROGRAM, IN A SANDBOX (cutbox-rows.mjs): the forced cells as the released guide's own fill.sh prints them over the translation a21db349a3dbcd11… (all of the seat's roots in one cut). By AI agents, Wed Nov 11 2026. No macro, syntax, notation, axiom, sorry.
-/
import Derived.Test.YtceoadgmiabhfaaChecked
import GoSem.Claim
import GoSem.ClaimJoined
import GoSem.ClaimMapViews
import Derived.JoinedTies
import Derived.KernelRfl
namespace Go.Proofs.Ytceoadgmiabhfaa
/- THE CELL 'sum', in the pinned program and in every row, IS THE sha256 OF THE DUMP (.gsa) THAT YtceoadgmiabhfaaProg.lean LOADS. Nothing in Lean hashes anything: it is a label: what it is worth is what the hold of that sum in a sandbox is worth. -/
noncomputable def Try.pinned : Pinned := { name := "ytceoadgmiabhfaa", sum := "a21db349a3dbcd1114308763483fdfed9d8719b537e7887da492156c029ca269", checked := Try.checked }
namespace Rows
def none {H : Type} : Left H := { results := [], args := [] }

/-- 'vergerlaw11.AgeRises': WHATEVER THE INPUT: true; the input reads as it did. -/
def ageRisesSpec : ChangeSpec := { name := "ageRises", fn := fun _ => fun
  | [d1, d2, d3] => { results := [.lit (.bool true)], args := [d1, d2, d3] }
  | _ => none }
def ageRisesRow : OpenClaim := { program := "ytceoadgmiabhfaa", sum := "a21db349a3dbcd1114308763483fdfed9d8719b537e7887da492156c029ca269", func := "verger/vergerlaw11.AgeRises", spec := "ageRises", inPlace := ["math/bits.Add64"], plainKeys := false, apart := false }
def AgeRisesSaid : Prop := ageRisesRow.holds Try.pinned (OpenSpec.ofChange ageRisesSpec)

/-- ITS FALSE NEIGHBOUR: 'it returns false'. Refute it at one input. -/
def ageRisesWrong : ChangeSpec := { name := "ageRises", fn := fun _ => fun
  | [d1, d2, d3] => { results := [.lit (.bool false)], args := [d1, d2, d3] }
  | _ => none }
def AgeRisesWrongFalsely : Prop := ageRisesRow.holds Try.pinned (OpenSpec.ofChange ageRisesWrong)

/-- 'vergerlaw1.WordApart': WHATEVER THE INPUT: true; the input reads as it did. -/
def wordApartSpec : ChangeSpec := { name := "wordApart", fn := fun _ => fun
  | [d1, d2, d3, d4] => { results := [.lit (.bool true)], args := [d1, d2, d3, d4] }
  | _ => none }
def wordApartRow : OpenClaim := { program := "ytceoadgmiabhfaa", sum := "a21db349a3dbcd1114308763483fdfed9d8719b537e7887da492156c029ca269", func := "verger/vergerlaw1.WordApart", spec := "wordApart", plainKeys := false, apart := false }
def WordApartSaid : Prop := wordApartRow.holds Try.pinned (OpenSpec.ofChange wordApartSpec)

/-- ITS FALSE NEIGHBOUR: 'it returns false'. Refute it at one input. -/
def wordApartWrong : ChangeSpec := { name := "wordApart", fn := fun _ => fun
  | [d1, d2, d3, d4] => { results := [.lit (.bool false)], args := [d1, d2, d3, d4] }
  | _ => none }
def WordApartWrongFalsely : Prop := wordApartRow.holds Try.pinned (OpenSpec.ofChange wordApartWrong)

/-- 'vergerlaw1.WordPacks': WHATEVER THE INPUT: true; the input reads as it did. -/
def wordPacksSpec : ChangeSpec := { name := "wordPacks", fn := fun _ => fun
  | [d1, d2, d3] => { results := [.lit (.bool true)], args := [d1, d2, d3] }
  | _ => none }
def wordPacksRow : OpenClaim := { program := "ytceoadgmiabhfaa", sum := "a21db349a3dbcd1114308763483fdfed9d8719b537e7887da492156c029ca269", func := "verger/vergerlaw1.WordPacks", spec := "wordPacks", plainKeys := false, apart := false }
def WordPacksSaid : Prop := wordPacksRow.holds Try.pinned (OpenSpec.ofChange wordPacksSpec)

/-- ITS FALSE NEIGHBOUR: 'it returns false'. Refute it at one input. -/
def wordPacksWrong : ChangeSpec := { name := "wordPacks", fn := fun _ => fun
  | [d1, d2, d3] => { results := [.lit (.bool false)], args := [d1, d2, d3] }
  | _ => none }
def WordPacksWrongFalsely : Prop := wordPacksRow.holds Try.pinned (OpenSpec.ofChange wordPacksWrong)

/-- 'vergerlaw1.WordRises': WHATEVER THE INPUT: true; the input reads as it did. -/
def wordRisesSpec : ChangeSpec := { name := "wordRises", fn := fun _ => fun
  | [d1, d2] => { results := [.lit (.bool true)], args := [d1, d2] }
  | _ => none }
def wordRisesRow : OpenClaim := { program := "ytceoadgmiabhfaa", sum := "a21db349a3dbcd1114308763483fdfed9d8719b537e7887da492156c029ca269", func := "verger/vergerlaw1.WordRises", spec := "wordRises", plainKeys := false, apart := false }
def WordRisesSaid : Prop := wordRisesRow.holds Try.pinned (OpenSpec.ofChange wordRisesSpec)

/-- ITS FALSE NEIGHBOUR: 'it returns false'. Refute it at one input. -/
def wordRisesWrong : ChangeSpec := { name := "wordRises", fn := fun _ => fun
  | [d1, d2] => { results := [.lit (.bool false)], args := [d1, d2] }
  | _ => none }
def WordRisesWrongFalsely : Prop := wordRisesRow.holds Try.pinned (OpenSpec.ofChange wordRisesWrong)

/-- 'vergerlaw11.AgeDue': WHATEVER THE INPUT: true; the input reads as it did. -/
def ageDueSpec : ChangeSpec := { name := "ageDue", fn := fun _ => fun
  | [d1, d2, d3] => { results := [.lit (.bool true)], args := [d1, d2, d3] }
  | _ => none }
def ageDueRow : OpenClaim := { program := "ytceoadgmiabhfaa", sum := "a21db349a3dbcd1114308763483fdfed9d8719b537e7887da492156c029ca269", func := "verger/vergerlaw11.AgeDue", spec := "ageDue", inPlace := ["math/bits.Add64"], plainKeys := false, apart := false }
def AgeDueSaid : Prop := ageDueRow.holds Try.pinned (OpenSpec.ofChange ageDueSpec)

/-- ITS FALSE NEIGHBOUR: 'it returns false'. Refute it at one input. -/
def ageDueWrong : ChangeSpec := { name := "ageDue", fn := fun _ => fun
  | [d1, d2, d3] => { results := [.lit (.bool false)], args := [d1, d2, d3] }
  | _ => none }
def AgeDueWrongFalsely : Prop := ageDueRow.holds Try.pinned (OpenSpec.ofChange ageDueWrong)

/-- 'vergerlaw1.WordLives': WHATEVER THE INPUT: true; the input reads as it did. -/
def wordLivesSpec : ChangeSpec := { name := "wordLives", fn := fun _ => fun
  | [d] => { results := [.lit (.bool true)], args := [d] }
  | _ => none }
def wordLivesRow : OpenClaim := { program := "ytceoadgmiabhfaa", sum := "a21db349a3dbcd1114308763483fdfed9d8719b537e7887da492156c029ca269", func := "verger/vergerlaw1.WordLives", spec := "wordLives", plainKeys := false, apart := false }
def WordLivesSaid : Prop := wordLivesRow.holds Try.pinned (OpenSpec.ofChange wordLivesSpec)

/-- ITS FALSE NEIGHBOUR: 'it returns false'. Refute it at one input. -/
def wordLivesWrong : ChangeSpec := { name := "wordLives", fn := fun _ => fun
  | [d] => { results := [.lit (.bool false)], args := [d] }
  | _ => none }
def WordLivesWrongFalsely : Prop := wordLivesRow.holds Try.pinned (OpenSpec.ofChange wordLivesWrong)

/-- 'vergerlaw1.WordStates': WHATEVER THE INPUT: true; the input reads as it did. -/
def wordStatesSpec : ChangeSpec := { name := "wordStates", fn := fun _ => fun
  | [d1, d2] => { results := [.lit (.bool true)], args := [d1, d2] }
  | _ => none }
def wordStatesRow : OpenClaim := { program := "ytceoadgmiabhfaa", sum := "a21db349a3dbcd1114308763483fdfed9d8719b537e7887da492156c029ca269", func := "verger/vergerlaw1.WordStates", spec := "wordStates", plainKeys := false, apart := false }
def WordStatesSaid : Prop := wordStatesRow.holds Try.pinned (OpenSpec.ofChange wordStatesSpec)

/-- ITS FALSE NEIGHBOUR: 'it returns false'. Refute it at one input. -/
def wordStatesWrong : ChangeSpec := { name := "wordStates", fn := fun _ => fun
  | [d1, d2] => { results := [.lit (.bool false)], args := [d1, d2] }
  | _ => none }
def WordStatesWrongFalsely : Prop := wordStatesRow.holds Try.pinned (OpenSpec.ofChange wordStatesWrong)

/-- 'vergerlaw11.AgeTells': WHATEVER THE INPUT: true; the input reads as it did. -/
def ageTellsSpec : ChangeSpec := { name := "ageTells", fn := fun _ => fun
  | [d1, d2, d3, d4, d5, d6] => { results := [.lit (.bool true)], args := [d1, d2, d3, d4, d5, d6] }
  | _ => none }
def ageTellsRow : OpenClaim := { program := "ytceoadgmiabhfaa", sum := "a21db349a3dbcd1114308763483fdfed9d8719b537e7887da492156c029ca269", func := "verger/vergerlaw11.AgeTells", spec := "ageTells", inPlace := ["math/bits.Add64"], plainKeys := false, apart := false }
def AgeTellsSaid : Prop := ageTellsRow.holds Try.pinned (OpenSpec.ofChange ageTellsSpec)

/-- ITS FALSE NEIGHBOUR: 'it returns false'. Refute it at one input. -/
def ageTellsWrong : ChangeSpec := { name := "ageTells", fn := fun _ => fun
  | [d1, d2, d3, d4, d5, d6] => { results := [.lit (.bool false)], args := [d1, d2, d3, d4, d5, d6] }
  | _ => none }
def AgeTellsWrongFalsely : Prop := ageTellsRow.holds Try.pinned (OpenSpec.ofChange ageTellsWrong)

/-- 'vergerlaw1.WordParts': WHATEVER THE INPUT: true; the input reads as it did. -/
def wordPartsSpec : ChangeSpec := { name := "wordParts", fn := fun _ => fun
  | [d1, d2] => { results := [.lit (.bool true)], args := [d1, d2] }
  | _ => none }
def wordPartsRow : OpenClaim := { program := "ytceoadgmiabhfaa", sum := "a21db349a3dbcd1114308763483fdfed9d8719b537e7887da492156c029ca269", func := "verger/vergerlaw1.WordParts", spec := "wordParts", plainKeys := false, apart := false }
def WordPartsSaid : Prop := wordPartsRow.holds Try.pinned (OpenSpec.ofChange wordPartsSpec)

/-- ITS FALSE NEIGHBOUR: 'it returns false'. Refute it at one input. -/
def wordPartsWrong : ChangeSpec := { name := "wordParts", fn := fun _ => fun
  | [d1, d2] => { results := [.lit (.bool false)], args := [d1, d2] }
  | _ => none }
def WordPartsWrongFalsely : Prop := wordPartsRow.holds Try.pinned (OpenSpec.ofChange wordPartsWrong)

/-- 'vergerlaw1.WordFields': WHATEVER THE INPUT: true; the input reads as it did. -/
def wordFieldsSpec : ChangeSpec := { name := "wordFields", fn := fun _ => fun
  | [d1, d2, d3, d4] => { results := [.lit (.bool true)], args := [d1, d2, d3, d4] }
  | _ => none }
def wordFieldsRow : OpenClaim := { program := "ytceoadgmiabhfaa", sum := "a21db349a3dbcd1114308763483fdfed9d8719b537e7887da492156c029ca269", func := "verger/vergerlaw1.WordFields", spec := "wordFields", plainKeys := false, apart := false }
def WordFieldsSaid : Prop := wordFieldsRow.holds Try.pinned (OpenSpec.ofChange wordFieldsSpec)

/-- ITS FALSE NEIGHBOUR: 'it returns false'. Refute it at one input. -/
def wordFieldsWrong : ChangeSpec := { name := "wordFields", fn := fun _ => fun
  | [d1, d2, d3, d4] => { results := [.lit (.bool false)], args := [d1, d2, d3, d4] }
  | _ => none }
def WordFieldsWrongFalsely : Prop := wordFieldsRow.holds Try.pinned (OpenSpec.ofChange wordFieldsWrong)

/- THE SECOND FORM. 'bulk': how many values and letters a reading holds, each counted each time it is reached (what is shared counts as often as it is met; a slice's spare places count too). A statement '..UptoSaid' is the law's where the arguments, and the package variables that the reading takes, are together of bulk at most 1048576: NARROWER than '..Said'. Prove '..Said' where nothing that the law and all that it calls make is longer than what came in: it says more and counts as full. Else prove '..UptoSaid'. A law counts once. -/
mutual
def uptoBulk {H : Type} : DataW H → Nat
  | .lit (.string bytes) => bytes.length + 1
  | .lit _ => 1
  | .nil => 1
  | .ptr d => uptoBulk d + 1
  | .slice elems spare => uptoBulkAll elems + uptoBulkAll spare + 1
  | .agg parts => uptoBulkAll parts + 1
  | .iface _ d => uptoBulk d + 1
  | .map entries => uptoBulkEntries entries + 1
  | .held _ => 1
def uptoBulkAll {H : Type} : List (DataW H) → Nat
  | [] => 0
  | d :: r => uptoBulk d + uptoBulkAll r
def uptoBulkEntries {H : Type} : List (Lit × DataW H) → Nat
  | [] => 0
  | x :: r => uptoBulkEntry x + uptoBulkEntries r
def uptoBulkEntry {H : Type} : Lit × DataW H → Nat
  | (.string bytes, d) => bytes.length + uptoBulk d + 1
  | (_, d) => uptoBulk d + 1
 end
def uptoSmall : (H : Type) → List (DataW H) → Bool := fun _ ds => decide (uptoBulkAll ds ≤ 1048576)
def OpenSpec.upto (s : _root_.Go.ChangeSpec) : _root_.Go.OpenSpec := { _root_.Go.OpenSpec.ofChange s with cond := some uptoSmall }

/-- 'vergerlaw11.AgeRises', WHERE WHAT IT READS IS OF BULK AT MOST 1048576: true; the input reads as it did. -/
def ageRisesUptoRow : OpenClaim := { program := "ytceoadgmiabhfaa", sum := "a21db349a3dbcd1114308763483fdfed9d8719b537e7887da492156c029ca269", func := "verger/vergerlaw11.AgeRises", spec := "ageRises", inPlace := ["math/bits.Add64"], plainKeys := false, apart := false, narrowed := true }
def AgeRisesUptoSaid : Prop := ageRisesUptoRow.holds Try.pinned (OpenSpec.upto ageRisesSpec)

/-- 'vergerlaw1.WordApart', WHERE WHAT IT READS IS OF BULK AT MOST 1048576: true; the input reads as it did. -/
def wordApartUptoRow : OpenClaim := { program := "ytceoadgmiabhfaa", sum := "a21db349a3dbcd1114308763483fdfed9d8719b537e7887da492156c029ca269", func := "verger/vergerlaw1.WordApart", spec := "wordApart", plainKeys := false, apart := false, narrowed := true }
def WordApartUptoSaid : Prop := wordApartUptoRow.holds Try.pinned (OpenSpec.upto wordApartSpec)

/-- 'vergerlaw1.WordPacks', WHERE WHAT IT READS IS OF BULK AT MOST 1048576: true; the input reads as it did. -/
def wordPacksUptoRow : OpenClaim := { program := "ytceoadgmiabhfaa", sum := "a21db349a3dbcd1114308763483fdfed9d8719b537e7887da492156c029ca269", func := "verger/vergerlaw1.WordPacks", spec := "wordPacks", plainKeys := false, apart := false, narrowed := true }
def WordPacksUptoSaid : Prop := wordPacksUptoRow.holds Try.pinned (OpenSpec.upto wordPacksSpec)

/-- 'vergerlaw1.WordRises', WHERE WHAT IT READS IS OF BULK AT MOST 1048576: true; the input reads as it did. -/
def wordRisesUptoRow : OpenClaim := { program := "ytceoadgmiabhfaa", sum := "a21db349a3dbcd1114308763483fdfed9d8719b537e7887da492156c029ca269", func := "verger/vergerlaw1.WordRises", spec := "wordRises", plainKeys := false, apart := false, narrowed := true }
def WordRisesUptoSaid : Prop := wordRisesUptoRow.holds Try.pinned (OpenSpec.upto wordRisesSpec)

/-- 'vergerlaw11.AgeDue', WHERE WHAT IT READS IS OF BULK AT MOST 1048576: true; the input reads as it did. -/
def ageDueUptoRow : OpenClaim := { program := "ytceoadgmiabhfaa", sum := "a21db349a3dbcd1114308763483fdfed9d8719b537e7887da492156c029ca269", func := "verger/vergerlaw11.AgeDue", spec := "ageDue", inPlace := ["math/bits.Add64"], plainKeys := false, apart := false, narrowed := true }
def AgeDueUptoSaid : Prop := ageDueUptoRow.holds Try.pinned (OpenSpec.upto ageDueSpec)

/-- 'vergerlaw1.WordLives', WHERE WHAT IT READS IS OF BULK AT MOST 1048576: true; the input reads as it did. -/
def wordLivesUptoRow : OpenClaim := { program := "ytceoadgmiabhfaa", sum := "a21db349a3dbcd1114308763483fdfed9d8719b537e7887da492156c029ca269", func := "verger/vergerlaw1.WordLives", spec := "wordLives", plainKeys := false, apart := false, narrowed := true }
def WordLivesUptoSaid : Prop := wordLivesUptoRow.holds Try.pinned (OpenSpec.upto wordLivesSpec)

/-- 'vergerlaw1.WordStates', WHERE WHAT IT READS IS OF BULK AT MOST 1048576: true; the input reads as it did. -/
def wordStatesUptoRow : OpenClaim := { program := "ytceoadgmiabhfaa", sum := "a21db349a3dbcd1114308763483fdfed9d8719b537e7887da492156c029ca269", func := "verger/vergerlaw1.WordStates", spec := "wordStates", plainKeys := false, apart := false, narrowed := true }
def WordStatesUptoSaid : Prop := wordStatesUptoRow.holds Try.pinned (OpenSpec.upto wordStatesSpec)

/-- 'vergerlaw11.AgeTells', WHERE WHAT IT READS IS OF BULK AT MOST 1048576: true; the input reads as it did. -/
def ageTellsUptoRow : OpenClaim := { program := "ytceoadgmiabhfaa", sum := "a21db349a3dbcd1114308763483fdfed9d8719b537e7887da492156c029ca269", func := "verger/vergerlaw11.AgeTells", spec := "ageTells", inPlace := ["math/bits.Add64"], plainKeys := false, apart := false, narrowed := true }
def AgeTellsUptoSaid : Prop := ageTellsUptoRow.holds Try.pinned (OpenSpec.upto ageTellsSpec)

/-- 'vergerlaw1.WordParts', WHERE WHAT IT READS IS OF BULK AT MOST 1048576: true; the input reads as it did. -/
def wordPartsUptoRow : OpenClaim := { program := "ytceoadgmiabhfaa", sum := "a21db349a3dbcd1114308763483fdfed9d8719b537e7887da492156c029ca269", func := "verger/vergerlaw1.WordParts", spec := "wordParts", plainKeys := false, apart := false, narrowed := true }
def WordPartsUptoSaid : Prop := wordPartsUptoRow.holds Try.pinned (OpenSpec.upto wordPartsSpec)

/-- 'vergerlaw1.WordFields', WHERE WHAT IT READS IS OF BULK AT MOST 1048576: true; the input reads as it did. -/
def wordFieldsUptoRow : OpenClaim := { program := "ytceoadgmiabhfaa", sum := "a21db349a3dbcd1114308763483fdfed9d8719b537e7887da492156c029ca269", func := "verger/vergerlaw1.WordFields", spec := "wordFields", plainKeys := false, apart := false, narrowed := true }
def WordFieldsUptoSaid : Prop := wordFieldsUptoRow.holds Try.pinned (OpenSpec.upto wordFieldsSpec)

end Rows
end Go.Proofs.Ytceoadgmiabhfaa
