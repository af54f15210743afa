/-
  No cell of these rows narrows 'for every input' (looked for: loops, veiled, ifaces, maps, wideKeys, modest, calm, conditions, laid).
  DERIVED. THE GIVEN ROWS OF THIS SEAT. 8 by the template 'for every input the law returns true; each argument reads behind the call as it read before'; 0 by the template 'total and deterministic' (their statements: YtbeehklibkeecaaTotals.lean).
  GIVEN WITH THE SEED: the statements are not yours to turn. If you find one false, say at which input.
  Laid BY PROGRAM, IN A SANDBOX (cutbox-rows.mjs): the forced cells as the released guide's own fill.sh prints them over the translation 89ea46773787a56d… (all of the seat's roots in one cut). By AI agents, Wed Nov 11 2026. No macro, syntax, notation, axiom, sorry.
-/
import Derived.Test.YtbeehklibkeecaaChecked
import GoSem.Claim
import GoSem.ClaimJoined
import GoSem.ClaimMapViews
import Derived.JoinedTies
import Derived.KernelRfl
namespace Go.Proofs.Ytbeehklibkeecaa
/- THE CELL 'sum', in the pinned program and in every row, IS THE sha256 OF THE DUMP (.gsa) THAT YtbeehklibkeecaaProg.lean LOADS. Nothing in Lean hashes anything: it is a label: what it is worth is what the hold of that sum in a sandbox is worth. -/
noncomputable def Try.pinned : Pinned := { name := "ytbeehklibkeecaa", sum := "89ea46773787a56d884644957524cb8dec67e2d7bf7cba1af968dc5bcb1b94da", checked := Try.checked }
namespace Rows
def none {H : Type} : Left H := { results := [], args := [] }

/-- 'laws.FnExactRoundsNeeded': WHATEVER THE INPUT: true; the input reads as it did. -/
def fnExactRoundsNeededSpec : ChangeSpec := { name := "fnExactRoundsNeeded", fn := fun _ => fun
  | [d1, d2, d3] => { results := [.lit (.bool true)], args := [d1, d2, d3] }
  | _ => none }
def fnExactRoundsNeededRow : OpenClaim := { program := "ytbeehklibkeecaa", sum := "89ea46773787a56d884644957524cb8dec67e2d7bf7cba1af968dc5bcb1b94da", func := "loop.example/g00846/laws.FnExactRoundsNeeded", spec := "fnExactRoundsNeeded", inPlace := ["slices.overlaps[[]int]"], unfollowed := true, recurses := true, apart := false }
def FnExactRoundsNeededSaid : Prop := fnExactRoundsNeededRow.holds Try.pinned (OpenSpec.ofChange fnExactRoundsNeededSpec)

/-- ITS FALSE NEIGHBOUR: 'it returns false'. Refute it at one input. -/
def fnExactRoundsNeededWrong : ChangeSpec := { name := "fnExactRoundsNeeded", fn := fun _ => fun
  | [d1, d2, d3] => { results := [.lit (.bool false)], args := [d1, d2, d3] }
  | _ => none }
def FnExactRoundsNeededWrongFalsely : Prop := fnExactRoundsNeededRow.holds Try.pinned (OpenSpec.ofChange fnExactRoundsNeededWrong)

/-- 'laws.FnExactFixedIndex': WHATEVER THE INPUT: true; the input reads as it did. -/
def fnExactFixedIndexSpec : ChangeSpec := { name := "fnExactFixedIndex", fn := fun _ => fun
  | [d1, d2, d3] => { results := [.lit (.bool true)], args := [d1, d2, d3] }
  | _ => none }
def fnExactFixedIndexRow : OpenClaim := { program := "ytbeehklibkeecaa", sum := "89ea46773787a56d884644957524cb8dec67e2d7bf7cba1af968dc5bcb1b94da", func := "loop.example/g00846/laws.FnExactFixedIndex", spec := "fnExactFixedIndex", inPlace := ["slices.overlaps[[]int]"], unfollowed := true, recurses := true, apart := false }
def FnExactFixedIndexSaid : Prop := fnExactFixedIndexRow.holds Try.pinned (OpenSpec.ofChange fnExactFixedIndexSpec)

/-- ITS FALSE NEIGHBOUR: 'it returns false'. Refute it at one input. -/
def fnExactFixedIndexWrong : ChangeSpec := { name := "fnExactFixedIndex", fn := fun _ => fun
  | [d1, d2, d3] => { results := [.lit (.bool false)], args := [d1, d2, d3] }
  | _ => none }
def FnExactFixedIndexWrongFalsely : Prop := fnExactFixedIndexRow.holds Try.pinned (OpenSpec.ofChange fnExactFixedIndexWrong)

/-- 'laws.FnExactPlacesFor': WHATEVER THE INPUT: true; the input reads as it did. -/
def fnExactPlacesForSpec : ChangeSpec := { name := "fnExactPlacesFor", fn := fun _ => fun
  | [d1, d2, d3, d4] => { results := [.lit (.bool true)], args := [d1, d2, d3, d4] }
  | _ => none }
def fnExactPlacesForRow : OpenClaim := { program := "ytbeehklibkeecaa", sum := "89ea46773787a56d884644957524cb8dec67e2d7bf7cba1af968dc5bcb1b94da", func := "loop.example/g00846/laws.FnExactPlacesFor", spec := "fnExactPlacesFor", inPlace := ["slices.overlaps[[]int]"], unfollowed := true, recurses := true, apart := false }
def FnExactPlacesForSaid : Prop := fnExactPlacesForRow.holds Try.pinned (OpenSpec.ofChange fnExactPlacesForSpec)

/-- ITS FALSE NEIGHBOUR: 'it returns false'. Refute it at one input. -/
def fnExactPlacesForWrong : ChangeSpec := { name := "fnExactPlacesFor", fn := fun _ => fun
  | [d1, d2, d3, d4] => { results := [.lit (.bool false)], args := [d1, d2, d3, d4] }
  | _ => none }
def FnExactPlacesForWrongFalsely : Prop := fnExactPlacesForRow.holds Try.pinned (OpenSpec.ofChange fnExactPlacesForWrong)

/-- 'laws.FnRounds': WHATEVER THE INPUT: true; the input reads as it did. -/
def fnRoundsSpec : ChangeSpec := { name := "fnRounds", fn := fun _ => fun
  | [d] => { results := [.lit (.bool true)], args := [d] }
  | _ => none }
def fnRoundsRow : OpenClaim := { program := "ytbeehklibkeecaa", sum := "89ea46773787a56d884644957524cb8dec67e2d7bf7cba1af968dc5bcb1b94da", func := "loop.example/g00846/laws.FnRounds", spec := "fnRounds", inPlace := ["slices.overlaps[[]int]"], unfollowed := true, recurses := true, apart := false }
def FnRoundsSaid : Prop := fnRoundsRow.holds Try.pinned (OpenSpec.ofChange fnRoundsSpec)

/-- ITS FALSE NEIGHBOUR: 'it returns false'. Refute it at one input. -/
def fnRoundsWrong : ChangeSpec := { name := "fnRounds", fn := fun _ => fun
  | [d] => { results := [.lit (.bool false)], args := [d] }
  | _ => none }
def FnRoundsWrongFalsely : Prop := fnRoundsRow.holds Try.pinned (OpenSpec.ofChange fnRoundsWrong)

/-- 'laws.FnConverse': WHATEVER THE INPUT: true; the input reads as it did. -/
def fnConverseSpec : ChangeSpec := { name := "fnConverse", fn := fun _ => fun
  | [d] => { results := [.lit (.bool true)], args := [d] }
  | _ => none }
def fnConverseRow : OpenClaim := { program := "ytbeehklibkeecaa", sum := "89ea46773787a56d884644957524cb8dec67e2d7bf7cba1af968dc5bcb1b94da", func := "loop.example/g00846/laws.FnConverse", spec := "fnConverse", unfollowed := true, recurses := true, apart := false }
def FnConverseSaid : Prop := fnConverseRow.holds Try.pinned (OpenSpec.ofChange fnConverseSpec)

/-- ITS FALSE NEIGHBOUR: 'it returns false'. Refute it at one input. -/
def fnConverseWrong : ChangeSpec := { name := "fnConverse", fn := fun _ => fun
  | [d] => { results := [.lit (.bool false)], args := [d] }
  | _ => none }
def FnConverseWrongFalsely : Prop := fnConverseRow.holds Try.pinned (OpenSpec.ofChange fnConverseWrong)

/-- 'laws.FnExactFaroGroup': WHATEVER THE INPUT: true; the input reads as it did. -/
def fnExactFaroGroupSpec : ChangeSpec := { name := "fnExactFaroGroup", fn := fun _ => fun
  | [d] => { results := [.lit (.bool true)], args := [d] }
  | _ => none }
def fnExactFaroGroupRow : OpenClaim := { program := "ytbeehklibkeecaa", sum := "89ea46773787a56d884644957524cb8dec67e2d7bf7cba1af968dc5bcb1b94da", func := "loop.example/g00846/laws.FnExactFaroGroup", spec := "fnExactFaroGroup", inPlace := ["slices.overlaps[[]int]"], unfollowed := true, recurses := true, apart := false }
def FnExactFaroGroupSaid : Prop := fnExactFaroGroupRow.holds Try.pinned (OpenSpec.ofChange fnExactFaroGroupSpec)

/-- ITS FALSE NEIGHBOUR: 'it returns false'. Refute it at one input. -/
def fnExactFaroGroupWrong : ChangeSpec := { name := "fnExactFaroGroup", fn := fun _ => fun
  | [d] => { results := [.lit (.bool false)], args := [d] }
  | _ => none }
def FnExactFaroGroupWrongFalsely : Prop := fnExactFaroGroupRow.holds Try.pinned (OpenSpec.ofChange fnExactFaroGroupWrong)

/-- 'laws.FnShortest': WHATEVER THE INPUT: true; the input reads as it did. -/
def fnShortestSpec : ChangeSpec := { name := "fnShortest", fn := fun _ => fun
  | [d] => { results := [.lit (.bool true)], args := [d] }
  | _ => none }
def fnShortestRow : OpenClaim := { program := "ytbeehklibkeecaa", sum := "89ea46773787a56d884644957524cb8dec67e2d7bf7cba1af968dc5bcb1b94da", func := "loop.example/g00846/laws.FnShortest", spec := "fnShortest", inPlace := ["slices.overlaps[[]int]"], unfollowed := true, recurses := true, apart := false }
def FnShortestSaid : Prop := fnShortestRow.holds Try.pinned (OpenSpec.ofChange fnShortestSpec)

/-- ITS FALSE NEIGHBOUR: 'it returns false'. Refute it at one input. -/
def fnShortestWrong : ChangeSpec := { name := "fnShortest", fn := fun _ => fun
  | [d] => { results := [.lit (.bool false)], args := [d] }
  | _ => none }
def FnShortestWrongFalsely : Prop := fnShortestRow.holds Try.pinned (OpenSpec.ofChange fnShortestWrong)

/-- 'laws.FnExactShortestFaro': WHATEVER THE INPUT: true; the input reads as it did. -/
def fnExactShortestFaroSpec : ChangeSpec := { name := "fnExactShortestFaro", fn := fun _ => fun
  | [d1, d2, d3] => { results := [.lit (.bool true)], args := [d1, d2, d3] }
  | _ => none }
def fnExactShortestFaroRow : OpenClaim := { program := "ytbeehklibkeecaa", sum := "89ea46773787a56d884644957524cb8dec67e2d7bf7cba1af968dc5bcb1b94da", func := "loop.example/g00846/laws.FnExactShortestFaro", spec := "fnExactShortestFaro", unfollowed := true, recurses := true, apart := false }
def FnExactShortestFaroSaid : Prop := fnExactShortestFaroRow.holds Try.pinned (OpenSpec.ofChange fnExactShortestFaroSpec)

/-- ITS FALSE NEIGHBOUR: 'it returns false'. Refute it at one input. -/
def fnExactShortestFaroWrong : ChangeSpec := { name := "fnExactShortestFaro", fn := fun _ => fun
  | [d1, d2, d3] => { results := [.lit (.bool false)], args := [d1, d2, d3] }
  | _ => none }
def FnExactShortestFaroWrongFalsely : Prop := fnExactShortestFaroRow.holds Try.pinned (OpenSpec.ofChange fnExactShortestFaroWrong)

/- THE SECOND FORM. 'bulk': how many values and letters a reading holds, each counted each time it is reached (what is shared counts as often as it is met; a slice's spare places count too). A statement '..UptoSaid' is the law's where the arguments, and the package variables that the reading takes, are together of bulk at most 1048576: NARROWER than '..Said'. Prove '..Said' where nothing that the law and all that it calls make is longer than what came in: it says more and counts as full. Else prove '..UptoSaid'. A law counts once. -/
mutual
def uptoBulk {H : Type} : DataW H → Nat
  | .lit (.string bytes) => bytes.length + 1
  | .lit _ => 1
  | .nil => 1
  | .ptr d => uptoBulk d + 1
  | .slice elems spare => uptoBulkAll elems + uptoBulkAll spare + 1
  | .agg parts => uptoBulkAll parts + 1
  | .iface _ d => uptoBulk d + 1
  | .map entries => uptoBulkEntries entries + 1
  | .held _ => 1
def uptoBulkAll {H : Type} : List (DataW H) → Nat
  | [] => 0
  | d :: r => uptoBulk d + uptoBulkAll r
def uptoBulkEntries {H : Type} : List (Lit × DataW H) → Nat
  | [] => 0
  | x :: r => uptoBulkEntry x + uptoBulkEntries r
def uptoBulkEntry {H : Type} : Lit × DataW H → Nat
  | (.string bytes, d) => bytes.length + uptoBulk d + 1
  | (_, d) => uptoBulk d + 1
 end
def uptoSmall : (H : Type) → List (DataW H) → Bool := fun _ ds => decide (uptoBulkAll ds ≤ 1048576)
def OpenSpec.upto (s : _root_.Go.ChangeSpec) : _root_.Go.OpenSpec := { _root_.Go.OpenSpec.ofChange s with cond := some uptoSmall }

/-- 'laws.FnExactRoundsNeeded', WHERE WHAT IT READS IS OF BULK AT MOST 1048576: true; the input reads as it did. -/
def fnExactRoundsNeededUptoRow : OpenClaim := { program := "ytbeehklibkeecaa", sum := "89ea46773787a56d884644957524cb8dec67e2d7bf7cba1af968dc5bcb1b94da", func := "loop.example/g00846/laws.FnExactRoundsNeeded", spec := "fnExactRoundsNeeded", inPlace := ["slices.overlaps[[]int]"], unfollowed := true, recurses := true, apart := false, narrowed := true }
def FnExactRoundsNeededUptoSaid : Prop := fnExactRoundsNeededUptoRow.holds Try.pinned (OpenSpec.upto fnExactRoundsNeededSpec)

/-- 'laws.FnExactFixedIndex', WHERE WHAT IT READS IS OF BULK AT MOST 1048576: true; the input reads as it did. -/
def fnExactFixedIndexUptoRow : OpenClaim := { program := "ytbeehklibkeecaa", sum := "89ea46773787a56d884644957524cb8dec67e2d7bf7cba1af968dc5bcb1b94da", func := "loop.example/g00846/laws.FnExactFixedIndex", spec := "fnExactFixedIndex", inPlace := ["slices.overlaps[[]int]"], unfollowed := true, recurses := true, apart := false, narrowed := true }
def FnExactFixedIndexUptoSaid : Prop := fnExactFixedIndexUptoRow.holds Try.pinned (OpenSpec.upto fnExactFixedIndexSpec)

/-- 'laws.FnExactPlacesFor', WHERE WHAT IT READS IS OF BULK AT MOST 1048576: true; the input reads as it did. -/
def fnExactPlacesForUptoRow : OpenClaim := { program := "ytbeehklibkeecaa", sum := "89ea46773787a56d884644957524cb8dec67e2d7bf7cba1af968dc5bcb1b94da", func := "loop.example/g00846/laws.FnExactPlacesFor", spec := "fnExactPlacesFor", inPlace := ["slices.overlaps[[]int]"], unfollowed := true, recurses := true, apart := false, narrowed := true }
def FnExactPlacesForUptoSaid : Prop := fnExactPlacesForUptoRow.holds Try.pinned (OpenSpec.upto fnExactPlacesForSpec)

/-- 'laws.FnRounds', WHERE WHAT IT READS IS OF BULK AT MOST 1048576: true; the input reads as it did. -/
def fnRoundsUptoRow : OpenClaim := { program := "ytbeehklibkeecaa", sum := "89ea46773787a56d884644957524cb8dec67e2d7bf7cba1af968dc5bcb1b94da", func := "loop.example/g00846/laws.FnRounds", spec := "fnRounds", inPlace := ["slices.overlaps[[]int]"], unfollowed := true, recurses := true, apart := false, narrowed := true }
def FnRoundsUptoSaid : Prop := fnRoundsUptoRow.holds Try.pinned (OpenSpec.upto fnRoundsSpec)

/-- 'laws.FnConverse', WHERE WHAT IT READS IS OF BULK AT MOST 1048576: true; the input reads as it did. -/
def fnConverseUptoRow : OpenClaim := { program := "ytbeehklibkeecaa", sum := "89ea46773787a56d884644957524cb8dec67e2d7bf7cba1af968dc5bcb1b94da", func := "loop.example/g00846/laws.FnConverse", spec := "fnConverse", unfollowed := true, recurses := true, apart := false, narrowed := true }
def FnConverseUptoSaid : Prop := fnConverseUptoRow.holds Try.pinned (OpenSpec.upto fnConverseSpec)

/-- 'laws.FnExactFaroGroup', WHERE WHAT IT READS IS OF BULK AT MOST 1048576: true; the input reads as it did. -/
def fnExactFaroGroupUptoRow : OpenClaim := { program := "ytbeehklibkeecaa", sum := "89ea46773787a56d884644957524cb8dec67e2d7bf7cba1af968dc5bcb1b94da", func := "loop.example/g00846/laws.FnExactFaroGroup", spec := "fnExactFaroGroup", inPlace := ["slices.overlaps[[]int]"], unfollowed := true, recurses := true, apart := false, narrowed := true }
def FnExactFaroGroupUptoSaid : Prop := fnExactFaroGroupUptoRow.holds Try.pinned (OpenSpec.upto fnExactFaroGroupSpec)

/-- 'laws.FnShortest', WHERE WHAT IT READS IS OF BULK AT MOST 1048576: true; the input reads as it did. -/
def fnShortestUptoRow : OpenClaim := { program := "ytbeehklibkeecaa", sum := "89ea46773787a56d884644957524cb8dec67e2d7bf7cba1af968dc5bcb1b94da", func := "loop.example/g00846/laws.FnShortest", spec := "fnShortest", inPlace := ["slices.overlaps[[]int]"], unfollowed := true, recurses := true, apart := false, narrowed := true }
def FnShortestUptoSaid : Prop := fnShortestUptoRow.holds Try.pinned (OpenSpec.upto fnShortestSpec)

/-- 'laws.FnExactShortestFaro', WHERE WHAT IT READS IS OF BULK AT MOST 1048576: true; the input reads as it did. -/
def fnExactShortestFaroUptoRow : OpenClaim := { program := "ytbeehklibkeecaa", sum := "89ea46773787a56d884644957524cb8dec67e2d7bf7cba1af968dc5bcb1b94da", func := "loop.example/g00846/laws.FnExactShortestFaro", spec := "fnExactShortestFaro", unfollowed := true, recurses := true, apart := false, narrowed := true }
def FnExactShortestFaroUptoSaid : Prop := fnExactShortestFaroUptoRow.holds Try.pinned (OpenSpec.upto fnExactShortestFaroSpec)

end Rows
end Go.Proofs.Ytbeehklibkeecaa
