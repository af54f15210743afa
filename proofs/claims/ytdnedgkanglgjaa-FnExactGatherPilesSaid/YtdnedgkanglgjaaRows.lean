/-
  No cell of these rows narrows 'for every input' (looked for: loops, veiled, ifaces, maps, wideKeys, modest, calm, conditions, laid).
  DERIVED. THE GIVEN ROWS OF THIS SEAT. 12 by the template 'for every input the law returns true; each argument reads behind the call as it read before'; 0 by the template 'total and deterministic' (their statements: YtdnedgkanglgjaaTotals.lean).
  GIVEN WITH THE SEED: the statements are not yours to turn. If you find one false, say at which input.
  Laid BY PROGRAM, IN A SANDBOX (cutbox-rows.mjs): the forced cells as the released guide's own fill.sh prints them over the translation e232be039c284b31… (all of the seat's roots in one cut). By AI agents, Wed Nov 11 2026. No macro, syntax, notation, axiom, sorry.
-/
import Derived.Test.YtdnedgkanglgjaaChecked
import GoSem.Claim
import GoSem.ClaimJoined
import GoSem.ClaimMapViews
import Derived.JoinedTies
import Derived.KernelRfl
namespace Go.Proofs.Ytdnedgkanglgjaa
/- THE CELL 'sum', in the pinned program and in every row, IS THE sha256 OF THE DUMP (.gsa) THAT YtdnedgkanglgjaaProg.lean LOADS. Nothing in Lean hashes anything: it is a label: what it is worth is what the hold of that sum in a sandbox is worth. -/
noncomputable def Try.pinned : Pinned := { name := "ytdnedgkanglgjaa", sum := "e232be039c284b317ac2de2b362c143942a13b4089c4b7a1b93e6cac2f12ec51", checked := Try.checked }
namespace Rows
def none {H : Type} : Left H := { results := [], args := [] }

/-- 'laws.FnExactShiftStack': WHATEVER THE INPUT: true; the input reads as it did. -/
def fnExactShiftStackSpec : ChangeSpec := { name := "fnExactShiftStack", fn := fun _ => fun
  | [d1, d2] => { results := [.lit (.bool true)], args := [d1, d2] }
  | _ => none }
def fnExactShiftStackRow : OpenClaim := { program := "ytdnedgkanglgjaa", sum := "e232be039c284b317ac2de2b362c143942a13b4089c4b7a1b93e6cac2f12ec51", func := "loop.example/g00846/laws.FnExactShiftStack", spec := "fnExactShiftStack", unfollowed := true, recurses := true, apart := false }
def FnExactShiftStackSaid : Prop := fnExactShiftStackRow.holds Try.pinned (OpenSpec.ofChange fnExactShiftStackSpec)

/-- ITS FALSE NEIGHBOUR: 'it returns false'. Refute it at one input. -/
def fnExactShiftStackWrong : ChangeSpec := { name := "fnExactShiftStack", fn := fun _ => fun
  | [d1, d2] => { results := [.lit (.bool false)], args := [d1, d2] }
  | _ => none }
def FnExactShiftStackWrongFalsely : Prop := fnExactShiftStackRow.holds Try.pinned (OpenSpec.ofChange fnExactShiftStackWrong)

/-- 'laws.FnExactPrepareDuck': WHATEVER THE INPUT: true; the input reads as it did. -/
def fnExactPrepareDuckSpec : ChangeSpec := { name := "fnExactPrepareDuck", fn := fun _ => fun
  | [d1, d2] => { results := [.lit (.bool true)], args := [d1, d2] }
  | _ => none }
def fnExactPrepareDuckRow : OpenClaim := { program := "ytdnedgkanglgjaa", sum := "e232be039c284b317ac2de2b362c143942a13b4089c4b7a1b93e6cac2f12ec51", func := "loop.example/g00846/laws.FnExactPrepareDuck", spec := "fnExactPrepareDuck", apart := false }
def FnExactPrepareDuckSaid : Prop := fnExactPrepareDuckRow.holds Try.pinned (OpenSpec.ofChange fnExactPrepareDuckSpec)

/-- ITS FALSE NEIGHBOUR: 'it returns false'. Refute it at one input. -/
def fnExactPrepareDuckWrong : ChangeSpec := { name := "fnExactPrepareDuck", fn := fun _ => fun
  | [d1, d2] => { results := [.lit (.bool false)], args := [d1, d2] }
  | _ => none }
def FnExactPrepareDuckWrongFalsely : Prop := fnExactPrepareDuckRow.holds Try.pinned (OpenSpec.ofChange fnExactPrepareDuckWrong)

/-- 'laws.FnExactAnswersTo': WHATEVER THE INPUT: true; the input reads as it did. -/
def fnExactAnswersToSpec : ChangeSpec := { name := "fnExactAnswersTo", fn := fun _ => fun
  | [d1, d2] => { results := [.lit (.bool true)], args := [d1, d2] }
  | _ => none }
def fnExactAnswersToRow : OpenClaim := { program := "ytdnedgkanglgjaa", sum := "e232be039c284b317ac2de2b362c143942a13b4089c4b7a1b93e6cac2f12ec51", func := "loop.example/g00846/laws.FnExactAnswersTo", spec := "fnExactAnswersTo", unfollowed := true, recurses := true, apart := false }
def FnExactAnswersToSaid : Prop := fnExactAnswersToRow.holds Try.pinned (OpenSpec.ofChange fnExactAnswersToSpec)

/-- ITS FALSE NEIGHBOUR: 'it returns false'. Refute it at one input. -/
def fnExactAnswersToWrong : ChangeSpec := { name := "fnExactAnswersTo", fn := fun _ => fun
  | [d1, d2] => { results := [.lit (.bool false)], args := [d1, d2] }
  | _ => none }
def FnExactAnswersToWrongFalsely : Prop := fnExactAnswersToRow.holds Try.pinned (OpenSpec.ofChange fnExactAnswersToWrong)

/-- 'laws.FnExactKnowOk': WHATEVER THE INPUT: true; the input reads as it did. -/
def fnExactKnowOkSpec : ChangeSpec := { name := "fnExactKnowOk", fn := fun _ => fun
  | [d] => { results := [.lit (.bool true)], args := [d] }
  | _ => none }
def fnExactKnowOkRow : OpenClaim := { program := "ytdnedgkanglgjaa", sum := "e232be039c284b317ac2de2b362c143942a13b4089c4b7a1b93e6cac2f12ec51", func := "loop.example/g00846/laws.FnExactKnowOk", spec := "fnExactKnowOk", unfollowed := true, recurses := true, apart := false }
def FnExactKnowOkSaid : Prop := fnExactKnowOkRow.holds Try.pinned (OpenSpec.ofChange fnExactKnowOkSpec)

/-- ITS FALSE NEIGHBOUR: 'it returns false'. Refute it at one input. -/
def fnExactKnowOkWrong : ChangeSpec := { name := "fnExactKnowOk", fn := fun _ => fun
  | [d] => { results := [.lit (.bool false)], args := [d] }
  | _ => none }
def FnExactKnowOkWrongFalsely : Prop := fnExactKnowOkRow.holds Try.pinned (OpenSpec.ofChange fnExactKnowOkWrong)

/-- 'laws.FnExactKnownIndexOf': WHATEVER THE INPUT: true; the input reads as it did. -/
def fnExactKnownIndexOfSpec : ChangeSpec := { name := "fnExactKnownIndexOf", fn := fun _ => fun
  | [d1, d2] => { results := [.lit (.bool true)], args := [d1, d2] }
  | _ => none }
def fnExactKnownIndexOfRow : OpenClaim := { program := "ytdnedgkanglgjaa", sum := "e232be039c284b317ac2de2b362c143942a13b4089c4b7a1b93e6cac2f12ec51", func := "loop.example/g00846/laws.FnExactKnownIndexOf", spec := "fnExactKnownIndexOf", unfollowed := true, recurses := true, apart := false }
def FnExactKnownIndexOfSaid : Prop := fnExactKnownIndexOfRow.holds Try.pinned (OpenSpec.ofChange fnExactKnownIndexOfSpec)

/-- ITS FALSE NEIGHBOUR: 'it returns false'. Refute it at one input. -/
def fnExactKnownIndexOfWrong : ChangeSpec := { name := "fnExactKnownIndexOf", fn := fun _ => fun
  | [d1, d2] => { results := [.lit (.bool false)], args := [d1, d2] }
  | _ => none }
def FnExactKnownIndexOfWrongFalsely : Prop := fnExactKnownIndexOfRow.holds Try.pinned (OpenSpec.ofChange fnExactKnownIndexOfWrong)

/-- 'laws.FnExactFaroGroup': WHATEVER THE INPUT: true; the input reads as it did. -/
def fnExactFaroGroupSpec : ChangeSpec := { name := "fnExactFaroGroup", fn := fun _ => fun
  | [d] => { results := [.lit (.bool true)], args := [d] }
  | _ => none }
def fnExactFaroGroupRow : OpenClaim := { program := "ytdnedgkanglgjaa", sum := "e232be039c284b317ac2de2b362c143942a13b4089c4b7a1b93e6cac2f12ec51", func := "loop.example/g00846/laws.FnExactFaroGroup", spec := "fnExactFaroGroup", inPlace := ["slices.overlaps[[]int]"], unfollowed := true, recurses := true, apart := false }
def FnExactFaroGroupSaid : Prop := fnExactFaroGroupRow.holds Try.pinned (OpenSpec.ofChange fnExactFaroGroupSpec)

/-- ITS FALSE NEIGHBOUR: 'it returns false'. Refute it at one input. -/
def fnExactFaroGroupWrong : ChangeSpec := { name := "fnExactFaroGroup", fn := fun _ => fun
  | [d] => { results := [.lit (.bool false)], args := [d] }
  | _ => none }
def FnExactFaroGroupWrongFalsely : Prop := fnExactFaroGroupRow.holds Try.pinned (OpenSpec.ofChange fnExactFaroGroupWrong)

/-- 'laws.FnExactFaroPerm': WHATEVER THE INPUT: true; the input reads as it did. -/
def fnExactFaroPermSpec : ChangeSpec := { name := "fnExactFaroPerm", fn := fun _ => fun
  | [d1, d2] => { results := [.lit (.bool true)], args := [d1, d2] }
  | _ => none }
def fnExactFaroPermRow : OpenClaim := { program := "ytdnedgkanglgjaa", sum := "e232be039c284b317ac2de2b362c143942a13b4089c4b7a1b93e6cac2f12ec51", func := "loop.example/g00846/laws.FnExactFaroPerm", spec := "fnExactFaroPerm", unfollowed := true, recurses := true, apart := false }
def FnExactFaroPermSaid : Prop := fnExactFaroPermRow.holds Try.pinned (OpenSpec.ofChange fnExactFaroPermSpec)

/-- ITS FALSE NEIGHBOUR: 'it returns false'. Refute it at one input. -/
def fnExactFaroPermWrong : ChangeSpec := { name := "fnExactFaroPerm", fn := fun _ => fun
  | [d1, d2] => { results := [.lit (.bool false)], args := [d1, d2] }
  | _ => none }
def FnExactFaroPermWrongFalsely : Prop := fnExactFaroPermRow.holds Try.pinned (OpenSpec.ofChange fnExactFaroPermWrong)

/-- 'laws.FnExactGatherPiles': WHATEVER THE INPUT: true; the input reads as it did. -/
def fnExactGatherPilesSpec : ChangeSpec := { name := "fnExactGatherPiles", fn := fun _ => fun
  | [d1, d2, d3] => { results := [.lit (.bool true)], args := [d1, d2, d3] }
  | _ => none }
def fnExactGatherPilesRow : OpenClaim := { program := "ytdnedgkanglgjaa", sum := "e232be039c284b317ac2de2b362c143942a13b4089c4b7a1b93e6cac2f12ec51", func := "loop.example/g00846/laws.FnExactGatherPiles", spec := "fnExactGatherPiles", inPlace := ["slices.overlaps[[]int]"], apart := false }
def FnExactGatherPilesSaid : Prop := fnExactGatherPilesRow.holds Try.pinned (OpenSpec.ofChange fnExactGatherPilesSpec)

/-- ITS FALSE NEIGHBOUR: 'it returns false'. Refute it at one input. -/
def fnExactGatherPilesWrong : ChangeSpec := { name := "fnExactGatherPiles", fn := fun _ => fun
  | [d1, d2, d3] => { results := [.lit (.bool false)], args := [d1, d2, d3] }
  | _ => none }
def FnExactGatherPilesWrongFalsely : Prop := fnExactGatherPilesRow.holds Try.pinned (OpenSpec.ofChange fnExactGatherPilesWrong)

/-- 'laws.FnExactPileRound': WHATEVER THE INPUT: true; the input reads as it did. -/
def fnExactPileRoundSpec : ChangeSpec := { name := "fnExactPileRound", fn := fun _ => fun
  | [d1, d2, d3, d4] => { results := [.lit (.bool true)], args := [d1, d2, d3, d4] }
  | _ => none }
def fnExactPileRoundRow : OpenClaim := { program := "ytdnedgkanglgjaa", sum := "e232be039c284b317ac2de2b362c143942a13b4089c4b7a1b93e6cac2f12ec51", func := "loop.example/g00846/laws.FnExactPileRound", spec := "fnExactPileRound", inPlace := ["slices.overlaps[[]int]"], unfollowed := true, recurses := true, apart := false }
def FnExactPileRoundSaid : Prop := fnExactPileRoundRow.holds Try.pinned (OpenSpec.ofChange fnExactPileRoundSpec)

/-- ITS FALSE NEIGHBOUR: 'it returns false'. Refute it at one input. -/
def fnExactPileRoundWrong : ChangeSpec := { name := "fnExactPileRound", fn := fun _ => fun
  | [d1, d2, d3, d4] => { results := [.lit (.bool false)], args := [d1, d2, d3, d4] }
  | _ => none }
def FnExactPileRoundWrongFalsely : Prop := fnExactPileRoundRow.holds Try.pinned (OpenSpec.ofChange fnExactPileRoundWrong)

/-- 'laws.FnExactIndexAfter': WHATEVER THE INPUT: true; the input reads as it did. -/
def fnExactIndexAfterSpec : ChangeSpec := { name := "fnExactIndexAfter", fn := fun _ => fun
  | [d1, d2, d3, d4] => { results := [.lit (.bool true)], args := [d1, d2, d3, d4] }
  | _ => none }
def fnExactIndexAfterRow : OpenClaim := { program := "ytdnedgkanglgjaa", sum := "e232be039c284b317ac2de2b362c143942a13b4089c4b7a1b93e6cac2f12ec51", func := "loop.example/g00846/laws.FnExactIndexAfter", spec := "fnExactIndexAfter", inPlace := ["slices.overlaps[[]int]"], unfollowed := true, recurses := true, apart := false }
def FnExactIndexAfterSaid : Prop := fnExactIndexAfterRow.holds Try.pinned (OpenSpec.ofChange fnExactIndexAfterSpec)

/-- ITS FALSE NEIGHBOUR: 'it returns false'. Refute it at one input. -/
def fnExactIndexAfterWrong : ChangeSpec := { name := "fnExactIndexAfter", fn := fun _ => fun
  | [d1, d2, d3, d4] => { results := [.lit (.bool false)], args := [d1, d2, d3, d4] }
  | _ => none }
def FnExactIndexAfterWrongFalsely : Prop := fnExactIndexAfterRow.holds Try.pinned (OpenSpec.ofChange fnExactIndexAfterWrong)

/-- 'laws.FnExactFaroOrder': WHATEVER THE INPUT: true; the input reads as it did. -/
def fnExactFaroOrderSpec : ChangeSpec := { name := "fnExactFaroOrder", fn := fun _ => fun
  | [d1, d2] => { results := [.lit (.bool true)], args := [d1, d2] }
  | _ => none }
def fnExactFaroOrderRow : OpenClaim := { program := "ytdnedgkanglgjaa", sum := "e232be039c284b317ac2de2b362c143942a13b4089c4b7a1b93e6cac2f12ec51", func := "loop.example/g00846/laws.FnExactFaroOrder", spec := "fnExactFaroOrder", unfollowed := true, recurses := true, apart := false }
def FnExactFaroOrderSaid : Prop := fnExactFaroOrderRow.holds Try.pinned (OpenSpec.ofChange fnExactFaroOrderSpec)

/-- ITS FALSE NEIGHBOUR: 'it returns false'. Refute it at one input. -/
def fnExactFaroOrderWrong : ChangeSpec := { name := "fnExactFaroOrder", fn := fun _ => fun
  | [d1, d2] => { results := [.lit (.bool false)], args := [d1, d2] }
  | _ => none }
def FnExactFaroOrderWrongFalsely : Prop := fnExactFaroOrderRow.holds Try.pinned (OpenSpec.ofChange fnExactFaroOrderWrong)

/-- 'laws.FnExactKeepsBalance': WHATEVER THE INPUT: true; the input reads as it did. -/
def fnExactKeepsBalanceSpec : ChangeSpec := { name := "fnExactKeepsBalance", fn := fun _ => fun
  | [d1, d2] => { results := [.lit (.bool true)], args := [d1, d2] }
  | _ => none }
def fnExactKeepsBalanceRow : OpenClaim := { program := "ytdnedgkanglgjaa", sum := "e232be039c284b317ac2de2b362c143942a13b4089c4b7a1b93e6cac2f12ec51", func := "loop.example/g00846/laws.FnExactKeepsBalance", spec := "fnExactKeepsBalance", apart := false }
def FnExactKeepsBalanceSaid : Prop := fnExactKeepsBalanceRow.holds Try.pinned (OpenSpec.ofChange fnExactKeepsBalanceSpec)

/-- ITS FALSE NEIGHBOUR: 'it returns false'. Refute it at one input. -/
def fnExactKeepsBalanceWrong : ChangeSpec := { name := "fnExactKeepsBalance", fn := fun _ => fun
  | [d1, d2] => { results := [.lit (.bool false)], args := [d1, d2] }
  | _ => none }
def FnExactKeepsBalanceWrongFalsely : Prop := fnExactKeepsBalanceRow.holds Try.pinned (OpenSpec.ofChange fnExactKeepsBalanceWrong)

/- THE SECOND FORM. 'bulk': how many values and letters a reading holds, each counted each time it is reached (what is shared counts as often as it is met; a slice's spare places count too). A statement '..UptoSaid' is the law's where the arguments, and the package variables that the reading takes, are together of bulk at most 1048576: NARROWER than '..Said'. Prove '..Said' where nothing that the law and all that it calls make is longer than what came in: it says more and counts as full. Else prove '..UptoSaid'. A law counts once. -/
mutual
def uptoBulk {H : Type} : DataW H → Nat
  | .lit (.string bytes) => bytes.length + 1
  | .lit _ => 1
  | .nil => 1
  | .ptr d => uptoBulk d + 1
  | .slice elems spare => uptoBulkAll elems + uptoBulkAll spare + 1
  | .agg parts => uptoBulkAll parts + 1
  | .iface _ d => uptoBulk d + 1
  | .map entries => uptoBulkEntries entries + 1
  | .held _ => 1
def uptoBulkAll {H : Type} : List (DataW H) → Nat
  | [] => 0
  | d :: r => uptoBulk d + uptoBulkAll r
def uptoBulkEntries {H : Type} : List (Lit × DataW H) → Nat
  | [] => 0
  | x :: r => uptoBulkEntry x + uptoBulkEntries r
def uptoBulkEntry {H : Type} : Lit × DataW H → Nat
  | (.string bytes, d) => bytes.length + uptoBulk d + 1
  | (_, d) => uptoBulk d + 1
 end
def uptoSmall : (H : Type) → List (DataW H) → Bool := fun _ ds => decide (uptoBulkAll ds ≤ 1048576)
def OpenSpec.upto (s : _root_.Go.ChangeSpec) : _root_.Go.OpenSpec := { _root_.Go.OpenSpec.ofChange s with cond := some uptoSmall }

/-- 'laws.FnExactShiftStack', WHERE WHAT IT READS IS OF BULK AT MOST 1048576: true; the input reads as it did. -/
def fnExactShiftStackUptoRow : OpenClaim := { program := "ytdnedgkanglgjaa", sum := "e232be039c284b317ac2de2b362c143942a13b4089c4b7a1b93e6cac2f12ec51", func := "loop.example/g00846/laws.FnExactShiftStack", spec := "fnExactShiftStack", unfollowed := true, recurses := true, apart := false, narrowed := true }
def FnExactShiftStackUptoSaid : Prop := fnExactShiftStackUptoRow.holds Try.pinned (OpenSpec.upto fnExactShiftStackSpec)

/-- 'laws.FnExactPrepareDuck', WHERE WHAT IT READS IS OF BULK AT MOST 1048576: true; the input reads as it did. -/
def fnExactPrepareDuckUptoRow : OpenClaim := { program := "ytdnedgkanglgjaa", sum := "e232be039c284b317ac2de2b362c143942a13b4089c4b7a1b93e6cac2f12ec51", func := "loop.example/g00846/laws.FnExactPrepareDuck", spec := "fnExactPrepareDuck", apart := false, narrowed := true }
def FnExactPrepareDuckUptoSaid : Prop := fnExactPrepareDuckUptoRow.holds Try.pinned (OpenSpec.upto fnExactPrepareDuckSpec)

/-- 'laws.FnExactAnswersTo', WHERE WHAT IT READS IS OF BULK AT MOST 1048576: true; the input reads as it did. -/
def fnExactAnswersToUptoRow : OpenClaim := { program := "ytdnedgkanglgjaa", sum := "e232be039c284b317ac2de2b362c143942a13b4089c4b7a1b93e6cac2f12ec51", func := "loop.example/g00846/laws.FnExactAnswersTo", spec := "fnExactAnswersTo", unfollowed := true, recurses := true, apart := false, narrowed := true }
def FnExactAnswersToUptoSaid : Prop := fnExactAnswersToUptoRow.holds Try.pinned (OpenSpec.upto fnExactAnswersToSpec)

/-- 'laws.FnExactKnowOk', WHERE WHAT IT READS IS OF BULK AT MOST 1048576: true; the input reads as it did. -/
def fnExactKnowOkUptoRow : OpenClaim := { program := "ytdnedgkanglgjaa", sum := "e232be039c284b317ac2de2b362c143942a13b4089c4b7a1b93e6cac2f12ec51", func := "loop.example/g00846/laws.FnExactKnowOk", spec := "fnExactKnowOk", unfollowed := true, recurses := true, apart := false, narrowed := true }
def FnExactKnowOkUptoSaid : Prop := fnExactKnowOkUptoRow.holds Try.pinned (OpenSpec.upto fnExactKnowOkSpec)

/-- 'laws.FnExactKnownIndexOf', WHERE WHAT IT READS IS OF BULK AT MOST 1048576: true; the input reads as it did. -/
def fnExactKnownIndexOfUptoRow : OpenClaim := { program := "ytdnedgkanglgjaa", sum := "e232be039c284b317ac2de2b362c143942a13b4089c4b7a1b93e6cac2f12ec51", func := "loop.example/g00846/laws.FnExactKnownIndexOf", spec := "fnExactKnownIndexOf", unfollowed := true, recurses := true, apart := false, narrowed := true }
def FnExactKnownIndexOfUptoSaid : Prop := fnExactKnownIndexOfUptoRow.holds Try.pinned (OpenSpec.upto fnExactKnownIndexOfSpec)

/-- 'laws.FnExactFaroGroup', WHERE WHAT IT READS IS OF BULK AT MOST 1048576: true; the input reads as it did. -/
def fnExactFaroGroupUptoRow : OpenClaim := { program := "ytdnedgkanglgjaa", sum := "e232be039c284b317ac2de2b362c143942a13b4089c4b7a1b93e6cac2f12ec51", func := "loop.example/g00846/laws.FnExactFaroGroup", spec := "fnExactFaroGroup", inPlace := ["slices.overlaps[[]int]"], unfollowed := true, recurses := true, apart := false, narrowed := true }
def FnExactFaroGroupUptoSaid : Prop := fnExactFaroGroupUptoRow.holds Try.pinned (OpenSpec.upto fnExactFaroGroupSpec)

/-- 'laws.FnExactFaroPerm', WHERE WHAT IT READS IS OF BULK AT MOST 1048576: true; the input reads as it did. -/
def fnExactFaroPermUptoRow : OpenClaim := { program := "ytdnedgkanglgjaa", sum := "e232be039c284b317ac2de2b362c143942a13b4089c4b7a1b93e6cac2f12ec51", func := "loop.example/g00846/laws.FnExactFaroPerm", spec := "fnExactFaroPerm", unfollowed := true, recurses := true, apart := false, narrowed := true }
def FnExactFaroPermUptoSaid : Prop := fnExactFaroPermUptoRow.holds Try.pinned (OpenSpec.upto fnExactFaroPermSpec)

/-- 'laws.FnExactGatherPiles', WHERE WHAT IT READS IS OF BULK AT MOST 1048576: true; the input reads as it did. -/
def fnExactGatherPilesUptoRow : OpenClaim := { program := "ytdnedgkanglgjaa", sum := "e232be039c284b317ac2de2b362c143942a13b4089c4b7a1b93e6cac2f12ec51", func := "loop.example/g00846/laws.FnExactGatherPiles", spec := "fnExactGatherPiles", inPlace := ["slices.overlaps[[]int]"], apart := false, narrowed := true }
def FnExactGatherPilesUptoSaid : Prop := fnExactGatherPilesUptoRow.holds Try.pinned (OpenSpec.upto fnExactGatherPilesSpec)

/-- 'laws.FnExactPileRound', WHERE WHAT IT READS IS OF BULK AT MOST 1048576: true; the input reads as it did. -/
def fnExactPileRoundUptoRow : OpenClaim := { program := "ytdnedgkanglgjaa", sum := "e232be039c284b317ac2de2b362c143942a13b4089c4b7a1b93e6cac2f12ec51", func := "loop.example/g00846/laws.FnExactPileRound", spec := "fnExactPileRound", inPlace := ["slices.overlaps[[]int]"], unfollowed := true, recurses := true, apart := false, narrowed := true }
def FnExactPileRoundUptoSaid : Prop := fnExactPileRoundUptoRow.holds Try.pinned (OpenSpec.upto fnExactPileRoundSpec)

/-- 'laws.FnExactIndexAfter', WHERE WHAT IT READS IS OF BULK AT MOST 1048576: true; the input reads as it did. -/
def fnExactIndexAfterUptoRow : OpenClaim := { program := "ytdnedgkanglgjaa", sum := "e232be039c284b317ac2de2b362c143942a13b4089c4b7a1b93e6cac2f12ec51", func := "loop.example/g00846/laws.FnExactIndexAfter", spec := "fnExactIndexAfter", inPlace := ["slices.overlaps[[]int]"], unfollowed := true, recurses := true, apart := false, narrowed := true }
def FnExactIndexAfterUptoSaid : Prop := fnExactIndexAfterUptoRow.holds Try.pinned (OpenSpec.upto fnExactIndexAfterSpec)

/-- 'laws.FnExactFaroOrder', WHERE WHAT IT READS IS OF BULK AT MOST 1048576: true; the input reads as it did. -/
def fnExactFaroOrderUptoRow : OpenClaim := { program := "ytdnedgkanglgjaa", sum := "e232be039c284b317ac2de2b362c143942a13b4089c4b7a1b93e6cac2f12ec51", func := "loop.example/g00846/laws.FnExactFaroOrder", spec := "fnExactFaroOrder", unfollowed := true, recurses := true, apart := false, narrowed := true }
def FnExactFaroOrderUptoSaid : Prop := fnExactFaroOrderUptoRow.holds Try.pinned (OpenSpec.upto fnExactFaroOrderSpec)

/-- 'laws.FnExactKeepsBalance', WHERE WHAT IT READS IS OF BULK AT MOST 1048576: true; the input reads as it did. -/
def fnExactKeepsBalanceUptoRow : OpenClaim := { program := "ytdnedgkanglgjaa", sum := "e232be039c284b317ac2de2b362c143942a13b4089c4b7a1b93e6cac2f12ec51", func := "loop.example/g00846/laws.FnExactKeepsBalance", spec := "fnExactKeepsBalance", apart := false, narrowed := true }
def FnExactKeepsBalanceUptoSaid : Prop := fnExactKeepsBalanceUptoRow.holds Try.pinned (OpenSpec.upto fnExactKeepsBalanceSpec)

end Rows
end Go.Proofs.Ytdnedgkanglgjaa
