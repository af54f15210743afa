/-
  No cell of these rows narrows 'for every input' (looked for: loops, veiled, ifaces, maps, wideKeys, modest, calm, conditions, laid).
  DERIVED. THE GIVEN ROWS OF THIS SEAT. 12 by the template 'for every input the law returns true; each argument reads behind the call as it read before'; 0 by the template 'total and deterministic' (their statements: YtlobampnikhmnaaTotals.lean).
  GIVEN WITH THE SEED: the statements are not yours to turn. If you find one false, say at which input.
  Laid BY PROGRAM, IN A SANDBOX (cutbox-rows.mjs): the forced cells as the released guide's own fill.sh prints them over the translation e66365e50b69f4d0… (all of the seat's roots in one cut). By AI agents, Wed Nov 11 2026. No macro, syntax, notation, axiom, sorry.
-/
import Derived.Test.YtlobampnikhmnaaChecked
import GoSem.Claim
import GoSem.ClaimJoined
import GoSem.ClaimMapViews
import Derived.JoinedTies
import Derived.KernelRfl
namespace Go.Proofs.Ytlobampnikhmnaa
/- THE CELL 'sum', in the pinned program and in every row, IS THE sha256 OF THE DUMP (.gsa) THAT YtlobampnikhmnaaProg.lean LOADS. Nothing in Lean hashes anything: it is a label: what it is worth is what the hold of that sum in a sandbox is worth. -/
noncomputable def Try.pinned : Pinned := { name := "ytlobampnikhmnaa", sum := "e66365e50b69f4d0efd629f4736b69c178a096968a9a837ac9bd6ed73bc48e5e", checked := Try.checked }
namespace Rows
def none {H : Type} : Left H := { results := [], args := [] }

/-- 'laws.FnExactRoundsNeeded': WHATEVER THE INPUT: true; the input reads as it did. -/
def fnExactRoundsNeededSpec : ChangeSpec := { name := "fnExactRoundsNeeded", fn := fun _ => fun
  | [d1, d2, d3] => { results := [.lit (.bool true)], args := [d1, d2, d3] }
  | _ => none }
def fnExactRoundsNeededRow : OpenClaim := { program := "ytlobampnikhmnaa", sum := "e66365e50b69f4d0efd629f4736b69c178a096968a9a837ac9bd6ed73bc48e5e", func := "loop.example/g00846/laws.FnExactRoundsNeeded", spec := "fnExactRoundsNeeded", inPlace := ["slices.overlaps[[]int]"], unfollowed := true, recurses := true, apart := false }
def FnExactRoundsNeededSaid : Prop := fnExactRoundsNeededRow.holds Try.pinned (OpenSpec.ofChange fnExactRoundsNeededSpec)

/-- ITS FALSE NEIGHBOUR: 'it returns false'. Refute it at one input. -/
def fnExactRoundsNeededWrong : ChangeSpec := { name := "fnExactRoundsNeeded", fn := fun _ => fun
  | [d1, d2, d3] => { results := [.lit (.bool false)], args := [d1, d2, d3] }
  | _ => none }
def FnExactRoundsNeededWrongFalsely : Prop := fnExactRoundsNeededRow.holds Try.pinned (OpenSpec.ofChange fnExactRoundsNeededWrong)

/-- 'laws.FnExactPlacesFor': WHATEVER THE INPUT: true; the input reads as it did. -/
def fnExactPlacesForSpec : ChangeSpec := { name := "fnExactPlacesFor", fn := fun _ => fun
  | [d1, d2, d3, d4] => { results := [.lit (.bool true)], args := [d1, d2, d3, d4] }
  | _ => none }
def fnExactPlacesForRow : OpenClaim := { program := "ytlobampnikhmnaa", sum := "e66365e50b69f4d0efd629f4736b69c178a096968a9a837ac9bd6ed73bc48e5e", func := "loop.example/g00846/laws.FnExactPlacesFor", spec := "fnExactPlacesFor", inPlace := ["slices.overlaps[[]int]"], unfollowed := true, recurses := true, apart := false }
def FnExactPlacesForSaid : Prop := fnExactPlacesForRow.holds Try.pinned (OpenSpec.ofChange fnExactPlacesForSpec)

/-- ITS FALSE NEIGHBOUR: 'it returns false'. Refute it at one input. -/
def fnExactPlacesForWrong : ChangeSpec := { name := "fnExactPlacesFor", fn := fun _ => fun
  | [d1, d2, d3, d4] => { results := [.lit (.bool false)], args := [d1, d2, d3, d4] }
  | _ => none }
def FnExactPlacesForWrongFalsely : Prop := fnExactPlacesForRow.holds Try.pinned (OpenSpec.ofChange fnExactPlacesForWrong)

/-- 'laws.FnExactFixedIndex': WHATEVER THE INPUT: true; the input reads as it did. -/
def fnExactFixedIndexSpec : ChangeSpec := { name := "fnExactFixedIndex", fn := fun _ => fun
  | [d1, d2, d3] => { results := [.lit (.bool true)], args := [d1, d2, d3] }
  | _ => none }
def fnExactFixedIndexRow : OpenClaim := { program := "ytlobampnikhmnaa", sum := "e66365e50b69f4d0efd629f4736b69c178a096968a9a837ac9bd6ed73bc48e5e", func := "loop.example/g00846/laws.FnExactFixedIndex", spec := "fnExactFixedIndex", inPlace := ["slices.overlaps[[]int]"], unfollowed := true, recurses := true, apart := false }
def FnExactFixedIndexSaid : Prop := fnExactFixedIndexRow.holds Try.pinned (OpenSpec.ofChange fnExactFixedIndexSpec)

/-- ITS FALSE NEIGHBOUR: 'it returns false'. Refute it at one input. -/
def fnExactFixedIndexWrong : ChangeSpec := { name := "fnExactFixedIndex", fn := fun _ => fun
  | [d1, d2, d3] => { results := [.lit (.bool false)], args := [d1, d2, d3] }
  | _ => none }
def FnExactFixedIndexWrongFalsely : Prop := fnExactFixedIndexRow.holds Try.pinned (OpenSpec.ofChange fnExactFixedIndexWrong)

/-- 'laws.FnParity': WHATEVER THE INPUT: true; the input reads as it did. -/
def fnParitySpec : ChangeSpec := { name := "fnParity", fn := fun _ => fun
  | [d] => { results := [.lit (.bool true)], args := [d] }
  | _ => none }
def fnParityRow : OpenClaim := { program := "ytlobampnikhmnaa", sum := "e66365e50b69f4d0efd629f4736b69c178a096968a9a837ac9bd6ed73bc48e5e", func := "loop.example/g00846/laws.FnParity", spec := "fnParity", apart := false }
def FnParitySaid : Prop := fnParityRow.holds Try.pinned (OpenSpec.ofChange fnParitySpec)

/-- ITS FALSE NEIGHBOUR: 'it returns false'. Refute it at one input. -/
def fnParityWrong : ChangeSpec := { name := "fnParity", fn := fun _ => fun
  | [d] => { results := [.lit (.bool false)], args := [d] }
  | _ => none }
def FnParityWrongFalsely : Prop := fnParityRow.holds Try.pinned (OpenSpec.ofChange fnParityWrong)

/-- 'laws.FnPiles': WHATEVER THE INPUT: true; the input reads as it did. -/
def fnPilesSpec : ChangeSpec := { name := "fnPiles", fn := fun _ => fun
  | [d] => { results := [.lit (.bool true)], args := [d] }
  | _ => none }
def fnPilesRow : OpenClaim := { program := "ytlobampnikhmnaa", sum := "e66365e50b69f4d0efd629f4736b69c178a096968a9a837ac9bd6ed73bc48e5e", func := "loop.example/g00846/laws.FnPiles", spec := "fnPiles", inPlace := ["slices.overlaps[[]int]"], unfollowed := true, recurses := true, apart := false }
def FnPilesSaid : Prop := fnPilesRow.holds Try.pinned (OpenSpec.ofChange fnPilesSpec)

/-- ITS FALSE NEIGHBOUR: 'it returns false'. Refute it at one input. -/
def fnPilesWrong : ChangeSpec := { name := "fnPiles", fn := fun _ => fun
  | [d] => { results := [.lit (.bool false)], args := [d] }
  | _ => none }
def FnPilesWrongFalsely : Prop := fnPilesRow.holds Try.pinned (OpenSpec.ofChange fnPilesWrong)

/-- 'laws.FnDucks': WHATEVER THE INPUT: true; the input reads as it did. -/
def fnDucksSpec : ChangeSpec := { name := "fnDucks", fn := fun _ => fun
  | [d] => { results := [.lit (.bool true)], args := [d] }
  | _ => none }
def fnDucksRow : OpenClaim := { program := "ytlobampnikhmnaa", sum := "e66365e50b69f4d0efd629f4736b69c178a096968a9a837ac9bd6ed73bc48e5e", func := "loop.example/g00846/laws.FnDucks", spec := "fnDucks", apart := false }
def FnDucksSaid : Prop := fnDucksRow.holds Try.pinned (OpenSpec.ofChange fnDucksSpec)

/-- ITS FALSE NEIGHBOUR: 'it returns false'. Refute it at one input. -/
def fnDucksWrong : ChangeSpec := { name := "fnDucks", fn := fun _ => fun
  | [d] => { results := [.lit (.bool false)], args := [d] }
  | _ => none }
def FnDucksWrongFalsely : Prop := fnDucksRow.holds Try.pinned (OpenSpec.ofChange fnDucksWrong)

/-- 'laws.FnRounds': WHATEVER THE INPUT: true; the input reads as it did. -/
def fnRoundsSpec : ChangeSpec := { name := "fnRounds", fn := fun _ => fun
  | [d] => { results := [.lit (.bool true)], args := [d] }
  | _ => none }
def fnRoundsRow : OpenClaim := { program := "ytlobampnikhmnaa", sum := "e66365e50b69f4d0efd629f4736b69c178a096968a9a837ac9bd6ed73bc48e5e", func := "loop.example/g00846/laws.FnRounds", spec := "fnRounds", inPlace := ["slices.overlaps[[]int]"], unfollowed := true, recurses := true, apart := false }
def FnRoundsSaid : Prop := fnRoundsRow.holds Try.pinned (OpenSpec.ofChange fnRoundsSpec)

/-- ITS FALSE NEIGHBOUR: 'it returns false'. Refute it at one input. -/
def fnRoundsWrong : ChangeSpec := { name := "fnRounds", fn := fun _ => fun
  | [d] => { results := [.lit (.bool false)], args := [d] }
  | _ => none }
def FnRoundsWrongFalsely : Prop := fnRoundsRow.holds Try.pinned (OpenSpec.ofChange fnRoundsWrong)

/-- 'laws.FnConverse': WHATEVER THE INPUT: true; the input reads as it did. -/
def fnConverseSpec : ChangeSpec := { name := "fnConverse", fn := fun _ => fun
  | [d] => { results := [.lit (.bool true)], args := [d] }
  | _ => none }
def fnConverseRow : OpenClaim := { program := "ytlobampnikhmnaa", sum := "e66365e50b69f4d0efd629f4736b69c178a096968a9a837ac9bd6ed73bc48e5e", func := "loop.example/g00846/laws.FnConverse", spec := "fnConverse", unfollowed := true, recurses := true, apart := false }
def FnConverseSaid : Prop := fnConverseRow.holds Try.pinned (OpenSpec.ofChange fnConverseSpec)

/-- ITS FALSE NEIGHBOUR: 'it returns false'. Refute it at one input. -/
def fnConverseWrong : ChangeSpec := { name := "fnConverse", fn := fun _ => fun
  | [d] => { results := [.lit (.bool false)], args := [d] }
  | _ => none }
def FnConverseWrongFalsely : Prop := fnConverseRow.holds Try.pinned (OpenSpec.ofChange fnConverseWrong)

/-- 'laws.FnFaros': WHATEVER THE INPUT: true; the input reads as it did. -/
def fnFarosSpec : ChangeSpec := { name := "fnFaros", fn := fun _ => fun
  | [d] => { results := [.lit (.bool true)], args := [d] }
  | _ => none }
def fnFarosRow : OpenClaim := { program := "ytlobampnikhmnaa", sum := "e66365e50b69f4d0efd629f4736b69c178a096968a9a837ac9bd6ed73bc48e5e", func := "loop.example/g00846/laws.FnFaros", spec := "fnFaros", unfollowed := true, recurses := true, apart := false }
def FnFarosSaid : Prop := fnFarosRow.holds Try.pinned (OpenSpec.ofChange fnFarosSpec)

/-- ITS FALSE NEIGHBOUR: 'it returns false'. Refute it at one input. -/
def fnFarosWrong : ChangeSpec := { name := "fnFaros", fn := fun _ => fun
  | [d] => { results := [.lit (.bool false)], args := [d] }
  | _ => none }
def FnFarosWrongFalsely : Prop := fnFarosRow.holds Try.pinned (OpenSpec.ofChange fnFarosWrong)

/-- 'laws.FnEquivocal': WHATEVER THE INPUT: true; the input reads as it did. -/
def fnEquivocalSpec : ChangeSpec := { name := "fnEquivocal", fn := fun _ => fun
  | [d] => { results := [.lit (.bool true)], args := [d] }
  | _ => none }
def fnEquivocalRow : OpenClaim := { program := "ytlobampnikhmnaa", sum := "e66365e50b69f4d0efd629f4736b69c178a096968a9a837ac9bd6ed73bc48e5e", func := "loop.example/g00846/laws.FnEquivocal", spec := "fnEquivocal", unfollowed := true, recurses := true, apart := false }
def FnEquivocalSaid : Prop := fnEquivocalRow.holds Try.pinned (OpenSpec.ofChange fnEquivocalSpec)

/-- ITS FALSE NEIGHBOUR: 'it returns false'. Refute it at one input. -/
def fnEquivocalWrong : ChangeSpec := { name := "fnEquivocal", fn := fun _ => fun
  | [d] => { results := [.lit (.bool false)], args := [d] }
  | _ => none }
def FnEquivocalWrongFalsely : Prop := fnEquivocalRow.holds Try.pinned (OpenSpec.ofChange fnEquivocalWrong)

/-- 'laws.FnForces': WHATEVER THE INPUT: true; the input reads as it did. -/
def fnForcesSpec : ChangeSpec := { name := "fnForces", fn := fun _ => fun
  | [d] => { results := [.lit (.bool true)], args := [d] }
  | _ => none }
def fnForcesRow : OpenClaim := { program := "ytlobampnikhmnaa", sum := "e66365e50b69f4d0efd629f4736b69c178a096968a9a837ac9bd6ed73bc48e5e", func := "loop.example/g00846/laws.FnForces", spec := "fnForces", unfollowed := true, recurses := true, apart := false }
def FnForcesSaid : Prop := fnForcesRow.holds Try.pinned (OpenSpec.ofChange fnForcesSpec)

/-- ITS FALSE NEIGHBOUR: 'it returns false'. Refute it at one input. -/
def fnForcesWrong : ChangeSpec := { name := "fnForces", fn := fun _ => fun
  | [d] => { results := [.lit (.bool false)], args := [d] }
  | _ => none }
def FnForcesWrongFalsely : Prop := fnForcesRow.holds Try.pinned (OpenSpec.ofChange fnForcesWrong)

/-- 'laws.FnExactEndsOf': WHATEVER THE INPUT: true; the input reads as it did. -/
def fnExactEndsOfSpec : ChangeSpec := { name := "fnExactEndsOf", fn := fun _ => fun
  | [d] => { results := [.lit (.bool true)], args := [d] }
  | _ => none }
def fnExactEndsOfRow : OpenClaim := { program := "ytlobampnikhmnaa", sum := "e66365e50b69f4d0efd629f4736b69c178a096968a9a837ac9bd6ed73bc48e5e", func := "loop.example/g00846/laws.FnExactEndsOf", spec := "fnExactEndsOf", unfollowed := true, recurses := true, apart := false }
def FnExactEndsOfSaid : Prop := fnExactEndsOfRow.holds Try.pinned (OpenSpec.ofChange fnExactEndsOfSpec)

/-- ITS FALSE NEIGHBOUR: 'it returns false'. Refute it at one input. -/
def fnExactEndsOfWrong : ChangeSpec := { name := "fnExactEndsOf", fn := fun _ => fun
  | [d] => { results := [.lit (.bool false)], args := [d] }
  | _ => none }
def FnExactEndsOfWrongFalsely : Prop := fnExactEndsOfRow.holds Try.pinned (OpenSpec.ofChange fnExactEndsOfWrong)

/- THE SECOND FORM. 'bulk': how many values and letters a reading holds, each counted each time it is reached (what is shared counts as often as it is met; a slice's spare places count too). A statement '..UptoSaid' is the law's where the arguments, and the package variables that the reading takes, are together of bulk at most 1048576: NARROWER than '..Said'. Prove '..Said' where nothing that the law and all that it calls make is longer than what came in: it says more and counts as full. Else prove '..UptoSaid'. A law counts once. -/
mutual
def uptoBulk {H : Type} : DataW H → Nat
  | .lit (.string bytes) => bytes.length + 1
  | .lit _ => 1
  | .nil => 1
  | .ptr d => uptoBulk d + 1
  | .slice elems spare => uptoBulkAll elems + uptoBulkAll spare + 1
  | .agg parts => uptoBulkAll parts + 1
  | .iface _ d => uptoBulk d + 1
  | .map entries => uptoBulkEntries entries + 1
  | .held _ => 1
def uptoBulkAll {H : Type} : List (DataW H) → Nat
  | [] => 0
  | d :: r => uptoBulk d + uptoBulkAll r
def uptoBulkEntries {H : Type} : List (Lit × DataW H) → Nat
  | [] => 0
  | x :: r => uptoBulkEntry x + uptoBulkEntries r
def uptoBulkEntry {H : Type} : Lit × DataW H → Nat
  | (.string bytes, d) => bytes.length + uptoBulk d + 1
  | (_, d) => uptoBulk d + 1
 end
def uptoSmall : (H : Type) → List (DataW H) → Bool := fun _ ds => decide (uptoBulkAll ds ≤ 1048576)
def OpenSpec.upto (s : _root_.Go.ChangeSpec) : _root_.Go.OpenSpec := { _root_.Go.OpenSpec.ofChange s with cond := some uptoSmall }

/-- 'laws.FnExactRoundsNeeded', WHERE WHAT IT READS IS OF BULK AT MOST 1048576: true; the input reads as it did. -/
def fnExactRoundsNeededUptoRow : OpenClaim := { program := "ytlobampnikhmnaa", sum := "e66365e50b69f4d0efd629f4736b69c178a096968a9a837ac9bd6ed73bc48e5e", func := "loop.example/g00846/laws.FnExactRoundsNeeded", spec := "fnExactRoundsNeeded", inPlace := ["slices.overlaps[[]int]"], unfollowed := true, recurses := true, apart := false, narrowed := true }
def FnExactRoundsNeededUptoSaid : Prop := fnExactRoundsNeededUptoRow.holds Try.pinned (OpenSpec.upto fnExactRoundsNeededSpec)

/-- 'laws.FnExactPlacesFor', WHERE WHAT IT READS IS OF BULK AT MOST 1048576: true; the input reads as it did. -/
def fnExactPlacesForUptoRow : OpenClaim := { program := "ytlobampnikhmnaa", sum := "e66365e50b69f4d0efd629f4736b69c178a096968a9a837ac9bd6ed73bc48e5e", func := "loop.example/g00846/laws.FnExactPlacesFor", spec := "fnExactPlacesFor", inPlace := ["slices.overlaps[[]int]"], unfollowed := true, recurses := true, apart := false, narrowed := true }
def FnExactPlacesForUptoSaid : Prop := fnExactPlacesForUptoRow.holds Try.pinned (OpenSpec.upto fnExactPlacesForSpec)

/-- 'laws.FnExactFixedIndex', WHERE WHAT IT READS IS OF BULK AT MOST 1048576: true; the input reads as it did. -/
def fnExactFixedIndexUptoRow : OpenClaim := { program := "ytlobampnikhmnaa", sum := "e66365e50b69f4d0efd629f4736b69c178a096968a9a837ac9bd6ed73bc48e5e", func := "loop.example/g00846/laws.FnExactFixedIndex", spec := "fnExactFixedIndex", inPlace := ["slices.overlaps[[]int]"], unfollowed := true, recurses := true, apart := false, narrowed := true }
def FnExactFixedIndexUptoSaid : Prop := fnExactFixedIndexUptoRow.holds Try.pinned (OpenSpec.upto fnExactFixedIndexSpec)

/-- 'laws.FnParity', WHERE WHAT IT READS IS OF BULK AT MOST 1048576: true; the input reads as it did. -/
def fnParityUptoRow : OpenClaim := { program := "ytlobampnikhmnaa", sum := "e66365e50b69f4d0efd629f4736b69c178a096968a9a837ac9bd6ed73bc48e5e", func := "loop.example/g00846/laws.FnParity", spec := "fnParity", apart := false, narrowed := true }
def FnParityUptoSaid : Prop := fnParityUptoRow.holds Try.pinned (OpenSpec.upto fnParitySpec)

/-- 'laws.FnPiles', WHERE WHAT IT READS IS OF BULK AT MOST 1048576: true; the input reads as it did. -/
def fnPilesUptoRow : OpenClaim := { program := "ytlobampnikhmnaa", sum := "e66365e50b69f4d0efd629f4736b69c178a096968a9a837ac9bd6ed73bc48e5e", func := "loop.example/g00846/laws.FnPiles", spec := "fnPiles", inPlace := ["slices.overlaps[[]int]"], unfollowed := true, recurses := true, apart := false, narrowed := true }
def FnPilesUptoSaid : Prop := fnPilesUptoRow.holds Try.pinned (OpenSpec.upto fnPilesSpec)

/-- 'laws.FnDucks', WHERE WHAT IT READS IS OF BULK AT MOST 1048576: true; the input reads as it did. -/
def fnDucksUptoRow : OpenClaim := { program := "ytlobampnikhmnaa", sum := "e66365e50b69f4d0efd629f4736b69c178a096968a9a837ac9bd6ed73bc48e5e", func := "loop.example/g00846/laws.FnDucks", spec := "fnDucks", apart := false, narrowed := true }
def FnDucksUptoSaid : Prop := fnDucksUptoRow.holds Try.pinned (OpenSpec.upto fnDucksSpec)

/-- 'laws.FnRounds', WHERE WHAT IT READS IS OF BULK AT MOST 1048576: true; the input reads as it did. -/
def fnRoundsUptoRow : OpenClaim := { program := "ytlobampnikhmnaa", sum := "e66365e50b69f4d0efd629f4736b69c178a096968a9a837ac9bd6ed73bc48e5e", func := "loop.example/g00846/laws.FnRounds", spec := "fnRounds", inPlace := ["slices.overlaps[[]int]"], unfollowed := true, recurses := true, apart := false, narrowed := true }
def FnRoundsUptoSaid : Prop := fnRoundsUptoRow.holds Try.pinned (OpenSpec.upto fnRoundsSpec)

/-- 'laws.FnConverse', WHERE WHAT IT READS IS OF BULK AT MOST 1048576: true; the input reads as it did. -/
def fnConverseUptoRow : OpenClaim := { program := "ytlobampnikhmnaa", sum := "e66365e50b69f4d0efd629f4736b69c178a096968a9a837ac9bd6ed73bc48e5e", func := "loop.example/g00846/laws.FnConverse", spec := "fnConverse", unfollowed := true, recurses := true, apart := false, narrowed := true }
def FnConverseUptoSaid : Prop := fnConverseUptoRow.holds Try.pinned (OpenSpec.upto fnConverseSpec)

/-- 'laws.FnFaros', WHERE WHAT IT READS IS OF BULK AT MOST 1048576: true; the input reads as it did. -/
def fnFarosUptoRow : OpenClaim := { program := "ytlobampnikhmnaa", sum := "e66365e50b69f4d0efd629f4736b69c178a096968a9a837ac9bd6ed73bc48e5e", func := "loop.example/g00846/laws.FnFaros", spec := "fnFaros", unfollowed := true, recurses := true, apart := false, narrowed := true }
def FnFarosUptoSaid : Prop := fnFarosUptoRow.holds Try.pinned (OpenSpec.upto fnFarosSpec)

/-- 'laws.FnEquivocal', WHERE WHAT IT READS IS OF BULK AT MOST 1048576: true; the input reads as it did. -/
def fnEquivocalUptoRow : OpenClaim := { program := "ytlobampnikhmnaa", sum := "e66365e50b69f4d0efd629f4736b69c178a096968a9a837ac9bd6ed73bc48e5e", func := "loop.example/g00846/laws.FnEquivocal", spec := "fnEquivocal", unfollowed := true, recurses := true, apart := false, narrowed := true }
def FnEquivocalUptoSaid : Prop := fnEquivocalUptoRow.holds Try.pinned (OpenSpec.upto fnEquivocalSpec)

/-- 'laws.FnForces', WHERE WHAT IT READS IS OF BULK AT MOST 1048576: true; the input reads as it did. -/
def fnForcesUptoRow : OpenClaim := { program := "ytlobampnikhmnaa", sum := "e66365e50b69f4d0efd629f4736b69c178a096968a9a837ac9bd6ed73bc48e5e", func := "loop.example/g00846/laws.FnForces", spec := "fnForces", unfollowed := true, recurses := true, apart := false, narrowed := true }
def FnForcesUptoSaid : Prop := fnForcesUptoRow.holds Try.pinned (OpenSpec.upto fnForcesSpec)

/-- 'laws.FnExactEndsOf', WHERE WHAT IT READS IS OF BULK AT MOST 1048576: true; the input reads as it did. -/
def fnExactEndsOfUptoRow : OpenClaim := { program := "ytlobampnikhmnaa", sum := "e66365e50b69f4d0efd629f4736b69c178a096968a9a837ac9bd6ed73bc48e5e", func := "loop.example/g00846/laws.FnExactEndsOf", spec := "fnExactEndsOf", unfollowed := true, recurses := true, apart := false, narrowed := true }
def FnExactEndsOfUptoSaid : Prop := fnExactEndsOfUptoRow.holds Try.pinned (OpenSpec.upto fnExactEndsOfSpec)

end Rows
end Go.Proofs.Ytlobampnikhmnaa
