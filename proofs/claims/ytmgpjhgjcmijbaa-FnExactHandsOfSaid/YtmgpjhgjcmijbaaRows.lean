/-
  No cell of these rows narrows 'for every input' (looked for: loops, veiled, ifaces, maps, wideKeys, modest, calm, conditions, laid).
  DERIVED. THE GIVEN ROWS OF THIS SEAT. 12 by the template 'for every input the law returns true; each argument reads behind the call as it read before'; 0 by the template 'total and deterministic' (their statements: YtmgpjhgjcmijbaaTotals.lean).
  GIVEN WITH THE SEED: the statements are not yours to turn. If you find one false, say at which input.
  Laid BY PROGRAM, IN A SANDBOX (cutbox-rows.mjs): the forced cells as the released guide's own fill.sh prints them over the translation 3f45e8dc16344a95… (all of the seat's roots in one cut). By AI agents, Wed Nov 11 2026. No macro, syntax, notation, axiom, sorry.
-/
import Derived.Test.YtmgpjhgjcmijbaaChecked
import GoSem.Claim
import GoSem.ClaimJoined
import GoSem.ClaimMapViews
import Derived.JoinedTies
import Derived.KernelRfl
namespace Go.Proofs.Ytmgpjhgjcmijbaa
/- THE CELL 'sum', in the pinned program and in every row, IS THE sha256 OF THE DUMP (.gsa) THAT YtmgpjhgjcmijbaaProg.lean LOADS. Nothing in Lean hashes anything: it is a label: what it is worth is what the hold of that sum in a sandbox is worth. -/
noncomputable def Try.pinned : Pinned := { name := "ytmgpjhgjcmijbaa", sum := "3f45e8dc16344a9590bc71bdc1c8928825b8d71e60a13b8e7616ba98a4ea95d8", checked := Try.checked }
namespace Rows
def none {H : Type} : Left H := { results := [], args := [] }

/-- 'laws.FnExactPilesOk': WHATEVER THE INPUT: true; the input reads as it did. -/
def fnExactPilesOkSpec : ChangeSpec := { name := "fnExactPilesOk", fn := fun _ => fun
  | [d1, d2] => { results := [.lit (.bool true)], args := [d1, d2] }
  | _ => none }
def fnExactPilesOkRow : OpenClaim := { program := "ytmgpjhgjcmijbaa", sum := "3f45e8dc16344a9590bc71bdc1c8928825b8d71e60a13b8e7616ba98a4ea95d8", func := "loop.example/g00846/laws.FnExactPilesOk", spec := "fnExactPilesOk", apart := false }
def FnExactPilesOkSaid : Prop := fnExactPilesOkRow.holds Try.pinned (OpenSpec.ofChange fnExactPilesOkSpec)

/-- ITS FALSE NEIGHBOUR: 'it returns false'. Refute it at one input. -/
def fnExactPilesOkWrong : ChangeSpec := { name := "fnExactPilesOk", fn := fun _ => fun
  | [d1, d2] => { results := [.lit (.bool false)], args := [d1, d2] }
  | _ => none }
def FnExactPilesOkWrongFalsely : Prop := fnExactPilesOkRow.holds Try.pinned (OpenSpec.ofChange fnExactPilesOkWrong)

/-- 'laws.FnExactLargestDeck': WHATEVER THE INPUT: true; the input reads as it did. -/
def fnExactLargestDeckSpec : ChangeSpec := { name := "fnExactLargestDeck", fn := fun _ => fun
  | [d] => { results := [.lit (.bool true)], args := [d] }
  | _ => none }
def fnExactLargestDeckRow : OpenClaim := { program := "ytmgpjhgjcmijbaa", sum := "3f45e8dc16344a9590bc71bdc1c8928825b8d71e60a13b8e7616ba98a4ea95d8", func := "loop.example/g00846/laws.FnExactLargestDeck", spec := "fnExactLargestDeck", apart := false }
def FnExactLargestDeckSaid : Prop := fnExactLargestDeckRow.holds Try.pinned (OpenSpec.ofChange fnExactLargestDeckSpec)

/-- ITS FALSE NEIGHBOUR: 'it returns false'. Refute it at one input. -/
def fnExactLargestDeckWrong : ChangeSpec := { name := "fnExactLargestDeck", fn := fun _ => fun
  | [d] => { results := [.lit (.bool false)], args := [d] }
  | _ => none }
def FnExactLargestDeckWrongFalsely : Prop := fnExactLargestDeckRow.holds Try.pinned (OpenSpec.ofChange fnExactLargestDeckWrong)

/-- 'laws.FnExactRoundsOf': WHATEVER THE INPUT: true; the input reads as it did. -/
def fnExactRoundsOfSpec : ChangeSpec := { name := "fnExactRoundsOf", fn := fun _ => fun
  | [d] => { results := [.lit (.bool true)], args := [d] }
  | _ => none }
def fnExactRoundsOfRow : OpenClaim := { program := "ytmgpjhgjcmijbaa", sum := "3f45e8dc16344a9590bc71bdc1c8928825b8d71e60a13b8e7616ba98a4ea95d8", func := "loop.example/g00846/laws.FnExactRoundsOf", spec := "fnExactRoundsOf", apart := false }
def FnExactRoundsOfSaid : Prop := fnExactRoundsOfRow.holds Try.pinned (OpenSpec.ofChange fnExactRoundsOfSpec)

/-- ITS FALSE NEIGHBOUR: 'it returns false'. Refute it at one input. -/
def fnExactRoundsOfWrong : ChangeSpec := { name := "fnExactRoundsOf", fn := fun _ => fun
  | [d] => { results := [.lit (.bool false)], args := [d] }
  | _ => none }
def FnExactRoundsOfWrongFalsely : Prop := fnExactRoundsOfRow.holds Try.pinned (OpenSpec.ofChange fnExactRoundsOfWrong)

/-- 'laws.FnExactFaroTo': WHATEVER THE INPUT: true; the input reads as it did. -/
def fnExactFaroToSpec : ChangeSpec := { name := "fnExactFaroTo", fn := fun _ => fun
  | [d1, d2] => { results := [.lit (.bool true)], args := [d1, d2] }
  | _ => none }
def fnExactFaroToRow : OpenClaim := { program := "ytmgpjhgjcmijbaa", sum := "3f45e8dc16344a9590bc71bdc1c8928825b8d71e60a13b8e7616ba98a4ea95d8", func := "loop.example/g00846/laws.FnExactFaroTo", spec := "fnExactFaroTo", apart := false }
def FnExactFaroToSaid : Prop := fnExactFaroToRow.holds Try.pinned (OpenSpec.ofChange fnExactFaroToSpec)

/-- ITS FALSE NEIGHBOUR: 'it returns false'. Refute it at one input. -/
def fnExactFaroToWrong : ChangeSpec := { name := "fnExactFaroTo", fn := fun _ => fun
  | [d1, d2] => { results := [.lit (.bool false)], args := [d1, d2] }
  | _ => none }
def FnExactFaroToWrongFalsely : Prop := fnExactFaroToRow.holds Try.pinned (OpenSpec.ofChange fnExactFaroToWrong)

/-- 'laws.FnExactIsCentral': WHATEVER THE INPUT: true; the input reads as it did. -/
def fnExactIsCentralSpec : ChangeSpec := { name := "fnExactIsCentral", fn := fun _ => fun
  | [d] => { results := [.lit (.bool true)], args := [d] }
  | _ => none }
def fnExactIsCentralRow : OpenClaim := { program := "ytmgpjhgjcmijbaa", sum := "3f45e8dc16344a9590bc71bdc1c8928825b8d71e60a13b8e7616ba98a4ea95d8", func := "loop.example/g00846/laws.FnExactIsCentral", spec := "fnExactIsCentral", apart := false }
def FnExactIsCentralSaid : Prop := fnExactIsCentralRow.holds Try.pinned (OpenSpec.ofChange fnExactIsCentralSpec)

/-- ITS FALSE NEIGHBOUR: 'it returns false'. Refute it at one input. -/
def fnExactIsCentralWrong : ChangeSpec := { name := "fnExactIsCentral", fn := fun _ => fun
  | [d] => { results := [.lit (.bool false)], args := [d] }
  | _ => none }
def FnExactIsCentralWrongFalsely : Prop := fnExactIsCentralRow.holds Try.pinned (OpenSpec.ofChange fnExactIsCentralWrong)

/-- 'laws.FnExactSplitSides': WHATEVER THE INPUT: true; the input reads as it did. -/
def fnExactSplitSidesSpec : ChangeSpec := { name := "fnExactSplitSides", fn := fun _ => fun
  | [d] => { results := [.lit (.bool true)], args := [d] }
  | _ => none }
def fnExactSplitSidesRow : OpenClaim := { program := "ytmgpjhgjcmijbaa", sum := "3f45e8dc16344a9590bc71bdc1c8928825b8d71e60a13b8e7616ba98a4ea95d8", func := "loop.example/g00846/laws.FnExactSplitSides", spec := "fnExactSplitSides", apart := false }
def FnExactSplitSidesSaid : Prop := fnExactSplitSidesRow.holds Try.pinned (OpenSpec.ofChange fnExactSplitSidesSpec)

/-- ITS FALSE NEIGHBOUR: 'it returns false'. Refute it at one input. -/
def fnExactSplitSidesWrong : ChangeSpec := { name := "fnExactSplitSides", fn := fun _ => fun
  | [d] => { results := [.lit (.bool false)], args := [d] }
  | _ => none }
def FnExactSplitSidesWrongFalsely : Prop := fnExactSplitSidesRow.holds Try.pinned (OpenSpec.ofChange fnExactSplitSidesWrong)

/-- 'laws.FnExactLastByPower': WHATEVER THE INPUT: true; the input reads as it did. -/
def fnExactLastByPowerSpec : ChangeSpec := { name := "fnExactLastByPower", fn := fun _ => fun
  | [d1, d2] => { results := [.lit (.bool true)], args := [d1, d2] }
  | _ => none }
def fnExactLastByPowerRow : OpenClaim := { program := "ytmgpjhgjcmijbaa", sum := "3f45e8dc16344a9590bc71bdc1c8928825b8d71e60a13b8e7616ba98a4ea95d8", func := "loop.example/g00846/laws.FnExactLastByPower", spec := "fnExactLastByPower", apart := false }
def FnExactLastByPowerSaid : Prop := fnExactLastByPowerRow.holds Try.pinned (OpenSpec.ofChange fnExactLastByPowerSpec)

/-- ITS FALSE NEIGHBOUR: 'it returns false'. Refute it at one input. -/
def fnExactLastByPowerWrong : ChangeSpec := { name := "fnExactLastByPower", fn := fun _ => fun
  | [d1, d2] => { results := [.lit (.bool false)], args := [d1, d2] }
  | _ => none }
def FnExactLastByPowerWrongFalsely : Prop := fnExactLastByPowerRow.holds Try.pinned (OpenSpec.ofChange fnExactLastByPowerWrong)

/-- 'laws.FnExactHandsOf': WHATEVER THE INPUT: true; the input reads as it did. -/
def fnExactHandsOfSpec : ChangeSpec := { name := "fnExactHandsOf", fn := fun _ => fun
  | [d1, d2] => { results := [.lit (.bool true)], args := [d1, d2] }
  | _ => none }
def fnExactHandsOfRow : OpenClaim := { program := "ytmgpjhgjcmijbaa", sum := "3f45e8dc16344a9590bc71bdc1c8928825b8d71e60a13b8e7616ba98a4ea95d8", func := "loop.example/g00846/laws.FnExactHandsOf", spec := "fnExactHandsOf", recurses := true, apart := false }
def FnExactHandsOfSaid : Prop := fnExactHandsOfRow.holds Try.pinned (OpenSpec.ofChange fnExactHandsOfSpec)

/-- ITS FALSE NEIGHBOUR: 'it returns false'. Refute it at one input. -/
def fnExactHandsOfWrong : ChangeSpec := { name := "fnExactHandsOf", fn := fun _ => fun
  | [d1, d2] => { results := [.lit (.bool false)], args := [d1, d2] }
  | _ => none }
def FnExactHandsOfWrongFalsely : Prop := fnExactHandsOfRow.holds Try.pinned (OpenSpec.ofChange fnExactHandsOfWrong)

/-- 'laws.FnExactLastIndex': WHATEVER THE INPUT: true; the input reads as it did. -/
def fnExactLastIndexSpec : ChangeSpec := { name := "fnExactLastIndex", fn := fun _ => fun
  | [d1, d2] => { results := [.lit (.bool true)], args := [d1, d2] }
  | _ => none }
def fnExactLastIndexRow : OpenClaim := { program := "ytmgpjhgjcmijbaa", sum := "3f45e8dc16344a9590bc71bdc1c8928825b8d71e60a13b8e7616ba98a4ea95d8", func := "loop.example/g00846/laws.FnExactLastIndex", spec := "fnExactLastIndex", apart := false }
def FnExactLastIndexSaid : Prop := fnExactLastIndexRow.holds Try.pinned (OpenSpec.ofChange fnExactLastIndexSpec)

/-- ITS FALSE NEIGHBOUR: 'it returns false'. Refute it at one input. -/
def fnExactLastIndexWrong : ChangeSpec := { name := "fnExactLastIndex", fn := fun _ => fun
  | [d1, d2] => { results := [.lit (.bool false)], args := [d1, d2] }
  | _ => none }
def FnExactLastIndexWrongFalsely : Prop := fnExactLastIndexRow.holds Try.pinned (OpenSpec.ofChange fnExactLastIndexWrong)

/-- 'laws.FnExactBalanceOf': WHATEVER THE INPUT: true; the input reads as it did. -/
def fnExactBalanceOfSpec : ChangeSpec := { name := "fnExactBalanceOf", fn := fun _ => fun
  | [d] => { results := [.lit (.bool true)], args := [d] }
  | _ => none }
def fnExactBalanceOfRow : OpenClaim := { program := "ytmgpjhgjcmijbaa", sum := "3f45e8dc16344a9590bc71bdc1c8928825b8d71e60a13b8e7616ba98a4ea95d8", func := "loop.example/g00846/laws.FnExactBalanceOf", spec := "fnExactBalanceOf", apart := false }
def FnExactBalanceOfSaid : Prop := fnExactBalanceOfRow.holds Try.pinned (OpenSpec.ofChange fnExactBalanceOfSpec)

/-- ITS FALSE NEIGHBOUR: 'it returns false'. Refute it at one input. -/
def fnExactBalanceOfWrong : ChangeSpec := { name := "fnExactBalanceOf", fn := fun _ => fun
  | [d] => { results := [.lit (.bool false)], args := [d] }
  | _ => none }
def FnExactBalanceOfWrongFalsely : Prop := fnExactBalanceOfRow.holds Try.pinned (OpenSpec.ofChange fnExactBalanceOfWrong)

/-- 'laws.FnExactHallViolation': WHATEVER THE INPUT: true; the input reads as it did. -/
def fnExactHallViolationSpec : ChangeSpec := { name := "fnExactHallViolation", fn := fun _ => fun
  | [d1, d2] => { results := [.lit (.bool true)], args := [d1, d2] }
  | _ => none }
def fnExactHallViolationRow : OpenClaim := { program := "ytmgpjhgjcmijbaa", sum := "3f45e8dc16344a9590bc71bdc1c8928825b8d71e60a13b8e7616ba98a4ea95d8", func := "loop.example/g00846/laws.FnExactHallViolation", spec := "fnExactHallViolation", recurses := true, apart := false }
def FnExactHallViolationSaid : Prop := fnExactHallViolationRow.holds Try.pinned (OpenSpec.ofChange fnExactHallViolationSpec)

/-- ITS FALSE NEIGHBOUR: 'it returns false'. Refute it at one input. -/
def fnExactHallViolationWrong : ChangeSpec := { name := "fnExactHallViolation", fn := fun _ => fun
  | [d1, d2] => { results := [.lit (.bool false)], args := [d1, d2] }
  | _ => none }
def FnExactHallViolationWrongFalsely : Prop := fnExactHallViolationRow.holds Try.pinned (OpenSpec.ofChange fnExactHallViolationWrong)

/-- 'laws.FnExactUpCountAfter': WHATEVER THE INPUT: true; the input reads as it did. -/
def fnExactUpCountAfterSpec : ChangeSpec := { name := "fnExactUpCountAfter", fn := fun _ => fun
  | [d] => { results := [.lit (.bool true)], args := [d] }
  | _ => none }
def fnExactUpCountAfterRow : OpenClaim := { program := "ytmgpjhgjcmijbaa", sum := "3f45e8dc16344a9590bc71bdc1c8928825b8d71e60a13b8e7616ba98a4ea95d8", func := "loop.example/g00846/laws.FnExactUpCountAfter", spec := "fnExactUpCountAfter", apart := false }
def FnExactUpCountAfterSaid : Prop := fnExactUpCountAfterRow.holds Try.pinned (OpenSpec.ofChange fnExactUpCountAfterSpec)

/-- ITS FALSE NEIGHBOUR: 'it returns false'. Refute it at one input. -/
def fnExactUpCountAfterWrong : ChangeSpec := { name := "fnExactUpCountAfter", fn := fun _ => fun
  | [d] => { results := [.lit (.bool false)], args := [d] }
  | _ => none }
def FnExactUpCountAfterWrongFalsely : Prop := fnExactUpCountAfterRow.holds Try.pinned (OpenSpec.ofChange fnExactUpCountAfterWrong)

/- THE SECOND FORM. 'bulk': how many values and letters a reading holds, each counted each time it is reached (what is shared counts as often as it is met; a slice's spare places count too). A statement '..UptoSaid' is the law's where the arguments, and the package variables that the reading takes, are together of bulk at most 1048576: NARROWER than '..Said'. Prove '..Said' where nothing that the law and all that it calls make is longer than what came in: it says more and counts as full. Else prove '..UptoSaid'. A law counts once. -/
mutual
def uptoBulk {H : Type} : DataW H → Nat
  | .lit (.string bytes) => bytes.length + 1
  | .lit _ => 1
  | .nil => 1
  | .ptr d => uptoBulk d + 1
  | .slice elems spare => uptoBulkAll elems + uptoBulkAll spare + 1
  | .agg parts => uptoBulkAll parts + 1
  | .iface _ d => uptoBulk d + 1
  | .map entries => uptoBulkEntries entries + 1
  | .held _ => 1
def uptoBulkAll {H : Type} : List (DataW H) → Nat
  | [] => 0
  | d :: r => uptoBulk d + uptoBulkAll r
def uptoBulkEntries {H : Type} : List (Lit × DataW H) → Nat
  | [] => 0
  | x :: r => uptoBulkEntry x + uptoBulkEntries r
def uptoBulkEntry {H : Type} : Lit × DataW H → Nat
  | (.string bytes, d) => bytes.length + uptoBulk d + 1
  | (_, d) => uptoBulk d + 1
 end
def uptoSmall : (H : Type) → List (DataW H) → Bool := fun _ ds => decide (uptoBulkAll ds ≤ 1048576)
def OpenSpec.upto (s : _root_.Go.ChangeSpec) : _root_.Go.OpenSpec := { _root_.Go.OpenSpec.ofChange s with cond := some uptoSmall }

/-- 'laws.FnExactPilesOk', WHERE WHAT IT READS IS OF BULK AT MOST 1048576: true; the input reads as it did. -/
def fnExactPilesOkUptoRow : OpenClaim := { program := "ytmgpjhgjcmijbaa", sum := "3f45e8dc16344a9590bc71bdc1c8928825b8d71e60a13b8e7616ba98a4ea95d8", func := "loop.example/g00846/laws.FnExactPilesOk", spec := "fnExactPilesOk", apart := false, narrowed := true }
def FnExactPilesOkUptoSaid : Prop := fnExactPilesOkUptoRow.holds Try.pinned (OpenSpec.upto fnExactPilesOkSpec)

/-- 'laws.FnExactLargestDeck', WHERE WHAT IT READS IS OF BULK AT MOST 1048576: true; the input reads as it did. -/
def fnExactLargestDeckUptoRow : OpenClaim := { program := "ytmgpjhgjcmijbaa", sum := "3f45e8dc16344a9590bc71bdc1c8928825b8d71e60a13b8e7616ba98a4ea95d8", func := "loop.example/g00846/laws.FnExactLargestDeck", spec := "fnExactLargestDeck", apart := false, narrowed := true }
def FnExactLargestDeckUptoSaid : Prop := fnExactLargestDeckUptoRow.holds Try.pinned (OpenSpec.upto fnExactLargestDeckSpec)

/-- 'laws.FnExactRoundsOf', WHERE WHAT IT READS IS OF BULK AT MOST 1048576: true; the input reads as it did. -/
def fnExactRoundsOfUptoRow : OpenClaim := { program := "ytmgpjhgjcmijbaa", sum := "3f45e8dc16344a9590bc71bdc1c8928825b8d71e60a13b8e7616ba98a4ea95d8", func := "loop.example/g00846/laws.FnExactRoundsOf", spec := "fnExactRoundsOf", apart := false, narrowed := true }
def FnExactRoundsOfUptoSaid : Prop := fnExactRoundsOfUptoRow.holds Try.pinned (OpenSpec.upto fnExactRoundsOfSpec)

/-- 'laws.FnExactFaroTo', WHERE WHAT IT READS IS OF BULK AT MOST 1048576: true; the input reads as it did. -/
def fnExactFaroToUptoRow : OpenClaim := { program := "ytmgpjhgjcmijbaa", sum := "3f45e8dc16344a9590bc71bdc1c8928825b8d71e60a13b8e7616ba98a4ea95d8", func := "loop.example/g00846/laws.FnExactFaroTo", spec := "fnExactFaroTo", apart := false, narrowed := true }
def FnExactFaroToUptoSaid : Prop := fnExactFaroToUptoRow.holds Try.pinned (OpenSpec.upto fnExactFaroToSpec)

/-- 'laws.FnExactIsCentral', WHERE WHAT IT READS IS OF BULK AT MOST 1048576: true; the input reads as it did. -/
def fnExactIsCentralUptoRow : OpenClaim := { program := "ytmgpjhgjcmijbaa", sum := "3f45e8dc16344a9590bc71bdc1c8928825b8d71e60a13b8e7616ba98a4ea95d8", func := "loop.example/g00846/laws.FnExactIsCentral", spec := "fnExactIsCentral", apart := false, narrowed := true }
def FnExactIsCentralUptoSaid : Prop := fnExactIsCentralUptoRow.holds Try.pinned (OpenSpec.upto fnExactIsCentralSpec)

/-- 'laws.FnExactSplitSides', WHERE WHAT IT READS IS OF BULK AT MOST 1048576: true; the input reads as it did. -/
def fnExactSplitSidesUptoRow : OpenClaim := { program := "ytmgpjhgjcmijbaa", sum := "3f45e8dc16344a9590bc71bdc1c8928825b8d71e60a13b8e7616ba98a4ea95d8", func := "loop.example/g00846/laws.FnExactSplitSides", spec := "fnExactSplitSides", apart := false, narrowed := true }
def FnExactSplitSidesUptoSaid : Prop := fnExactSplitSidesUptoRow.holds Try.pinned (OpenSpec.upto fnExactSplitSidesSpec)

/-- 'laws.FnExactLastByPower', WHERE WHAT IT READS IS OF BULK AT MOST 1048576: true; the input reads as it did. -/
def fnExactLastByPowerUptoRow : OpenClaim := { program := "ytmgpjhgjcmijbaa", sum := "3f45e8dc16344a9590bc71bdc1c8928825b8d71e60a13b8e7616ba98a4ea95d8", func := "loop.example/g00846/laws.FnExactLastByPower", spec := "fnExactLastByPower", apart := false, narrowed := true }
def FnExactLastByPowerUptoSaid : Prop := fnExactLastByPowerUptoRow.holds Try.pinned (OpenSpec.upto fnExactLastByPowerSpec)

/-- 'laws.FnExactHandsOf', WHERE WHAT IT READS IS OF BULK AT MOST 1048576: true; the input reads as it did. -/
def fnExactHandsOfUptoRow : OpenClaim := { program := "ytmgpjhgjcmijbaa", sum := "3f45e8dc16344a9590bc71bdc1c8928825b8d71e60a13b8e7616ba98a4ea95d8", func := "loop.example/g00846/laws.FnExactHandsOf", spec := "fnExactHandsOf", recurses := true, apart := false, narrowed := true }
def FnExactHandsOfUptoSaid : Prop := fnExactHandsOfUptoRow.holds Try.pinned (OpenSpec.upto fnExactHandsOfSpec)

/-- 'laws.FnExactLastIndex', WHERE WHAT IT READS IS OF BULK AT MOST 1048576: true; the input reads as it did. -/
def fnExactLastIndexUptoRow : OpenClaim := { program := "ytmgpjhgjcmijbaa", sum := "3f45e8dc16344a9590bc71bdc1c8928825b8d71e60a13b8e7616ba98a4ea95d8", func := "loop.example/g00846/laws.FnExactLastIndex", spec := "fnExactLastIndex", apart := false, narrowed := true }
def FnExactLastIndexUptoSaid : Prop := fnExactLastIndexUptoRow.holds Try.pinned (OpenSpec.upto fnExactLastIndexSpec)

/-- 'laws.FnExactBalanceOf', WHERE WHAT IT READS IS OF BULK AT MOST 1048576: true; the input reads as it did. -/
def fnExactBalanceOfUptoRow : OpenClaim := { program := "ytmgpjhgjcmijbaa", sum := "3f45e8dc16344a9590bc71bdc1c8928825b8d71e60a13b8e7616ba98a4ea95d8", func := "loop.example/g00846/laws.FnExactBalanceOf", spec := "fnExactBalanceOf", apart := false, narrowed := true }
def FnExactBalanceOfUptoSaid : Prop := fnExactBalanceOfUptoRow.holds Try.pinned (OpenSpec.upto fnExactBalanceOfSpec)

/-- 'laws.FnExactHallViolation', WHERE WHAT IT READS IS OF BULK AT MOST 1048576: true; the input reads as it did. -/
def fnExactHallViolationUptoRow : OpenClaim := { program := "ytmgpjhgjcmijbaa", sum := "3f45e8dc16344a9590bc71bdc1c8928825b8d71e60a13b8e7616ba98a4ea95d8", func := "loop.example/g00846/laws.FnExactHallViolation", spec := "fnExactHallViolation", recurses := true, apart := false, narrowed := true }
def FnExactHallViolationUptoSaid : Prop := fnExactHallViolationUptoRow.holds Try.pinned (OpenSpec.upto fnExactHallViolationSpec)

/-- 'laws.FnExactUpCountAfter', WHERE WHAT IT READS IS OF BULK AT MOST 1048576: true; the input reads as it did. -/
def fnExactUpCountAfterUptoRow : OpenClaim := { program := "ytmgpjhgjcmijbaa", sum := "3f45e8dc16344a9590bc71bdc1c8928825b8d71e60a13b8e7616ba98a4ea95d8", func := "loop.example/g00846/laws.FnExactUpCountAfter", spec := "fnExactUpCountAfter", apart := false, narrowed := true }
def FnExactUpCountAfterUptoSaid : Prop := fnExactUpCountAfterUptoRow.holds Try.pinned (OpenSpec.upto fnExactUpCountAfterSpec)

end Rows
end Go.Proofs.Ytmgpjhgjcmijbaa
