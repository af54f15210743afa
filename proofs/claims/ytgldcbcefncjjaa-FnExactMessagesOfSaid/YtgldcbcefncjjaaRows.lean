/-
  No cell of these rows narrows 'for every input' (looked for: loops, veiled, ifaces, maps, wideKeys, modest, calm, conditions, laid).
  DERIVED. THE GIVEN ROWS OF THIS SEAT. 10 by the template 'for every input the law returns true; each argument reads behind the call as it read before'; 0 by the template 'total and deterministic' (their statements: YtgldcbcefncjjaaTotals.lean).
  GIVEN WITH THE SEED: the statements are not yours to turn. If you find one false, say at which input.
  Laid BY PROGRAM, IN A SANDBOX (cutbox-rows.mjs): the forced cells as the released guide's own fill.sh prints them over the translation 913c65da47e6a84a… (all of the seat's roots in one cut). By AI agents, Wed Nov 11 2026. No macro, syntax, notation, axiom, sorry.
-/
import Derived.Test.YtgldcbcefncjjaaChecked
import GoSem.Claim
import GoSem.ClaimJoined
import GoSem.ClaimMapViews
import Derived.JoinedTies
import Derived.KernelRfl
namespace Go.Proofs.Ytgldcbcefncjjaa
/- THE CELL 'sum', in the pinned program and in every row, IS THE sha256 OF THE DUMP (.gsa) THAT YtgldcbcefncjjaaProg.lean LOADS. Nothing in Lean hashes anything: it is a label: what it is worth is what the hold of that sum in a sandbox is worth. -/
noncomputable def Try.pinned : Pinned := { name := "ytgldcbcefncjjaa", sum := "913c65da47e6a84aa2ac4acacf11b993eee60d1f8256938b15c58c91f016ea20", checked := Try.checked }
namespace Rows
def none {H : Type} : Left H := { results := [], args := [] }

/-- 'laws.FnExactFourForce': WHATEVER THE INPUT: true; the input reads as it did. -/
def fnExactFourForceSpec : ChangeSpec := { name := "fnExactFourForce", fn := fun _ => fun
  | [d1, d2] => { results := [.lit (.bool true)], args := [d1, d2] }
  | _ => none }
def fnExactFourForceRow : OpenClaim := { program := "ytgldcbcefncjjaa", sum := "913c65da47e6a84aa2ac4acacf11b993eee60d1f8256938b15c58c91f016ea20", func := "loop.example/g00846/laws.FnExactFourForce", spec := "fnExactFourForce", apart := false }
def FnExactFourForceSaid : Prop := fnExactFourForceRow.holds Try.pinned (OpenSpec.ofChange fnExactFourForceSpec)

/-- ITS FALSE NEIGHBOUR: 'it returns false'. Refute it at one input. -/
def fnExactFourForceWrong : ChangeSpec := { name := "fnExactFourForce", fn := fun _ => fun
  | [d1, d2] => { results := [.lit (.bool false)], args := [d1, d2] }
  | _ => none }
def FnExactFourForceWrongFalsely : Prop := fnExactFourForceRow.holds Try.pinned (OpenSpec.ofChange fnExactFourForceWrong)

/-- 'laws.FnExactPairForce': WHATEVER THE INPUT: true; the input reads as it did. -/
def fnExactPairForceSpec : ChangeSpec := { name := "fnExactPairForce", fn := fun _ => fun
  | [d1, d2] => { results := [.lit (.bool true)], args := [d1, d2] }
  | _ => none }
def fnExactPairForceRow : OpenClaim := { program := "ytgldcbcefncjjaa", sum := "913c65da47e6a84aa2ac4acacf11b993eee60d1f8256938b15c58c91f016ea20", func := "loop.example/g00846/laws.FnExactPairForce", spec := "fnExactPairForce", apart := false }
def FnExactPairForceSaid : Prop := fnExactPairForceRow.holds Try.pinned (OpenSpec.ofChange fnExactPairForceSpec)

/-- ITS FALSE NEIGHBOUR: 'it returns false'. Refute it at one input. -/
def fnExactPairForceWrong : ChangeSpec := { name := "fnExactPairForce", fn := fun _ => fun
  | [d1, d2] => { results := [.lit (.bool false)], args := [d1, d2] }
  | _ => none }
def FnExactPairForceWrongFalsely : Prop := fnExactPairForceRow.holds Try.pinned (OpenSpec.ofChange fnExactPairForceWrong)

/-- 'laws.FnExactAnswersTo': WHATEVER THE INPUT: true; the input reads as it did. -/
def fnExactAnswersToSpec : ChangeSpec := { name := "fnExactAnswersTo", fn := fun _ => fun
  | [d1, d2] => { results := [.lit (.bool true)], args := [d1, d2] }
  | _ => none }
def fnExactAnswersToRow : OpenClaim := { program := "ytgldcbcefncjjaa", sum := "913c65da47e6a84aa2ac4acacf11b993eee60d1f8256938b15c58c91f016ea20", func := "loop.example/g00846/laws.FnExactAnswersTo", spec := "fnExactAnswersTo", unfollowed := true, recurses := true, apart := false }
def FnExactAnswersToSaid : Prop := fnExactAnswersToRow.holds Try.pinned (OpenSpec.ofChange fnExactAnswersToSpec)

/-- ITS FALSE NEIGHBOUR: 'it returns false'. Refute it at one input. -/
def fnExactAnswersToWrong : ChangeSpec := { name := "fnExactAnswersTo", fn := fun _ => fun
  | [d1, d2] => { results := [.lit (.bool false)], args := [d1, d2] }
  | _ => none }
def FnExactAnswersToWrongFalsely : Prop := fnExactAnswersToRow.holds Try.pinned (OpenSpec.ofChange fnExactAnswersToWrong)

/-- 'laws.FnExactEndsOf': WHATEVER THE INPUT: true; the input reads as it did. -/
def fnExactEndsOfSpec : ChangeSpec := { name := "fnExactEndsOf", fn := fun _ => fun
  | [d] => { results := [.lit (.bool true)], args := [d] }
  | _ => none }
def fnExactEndsOfRow : OpenClaim := { program := "ytgldcbcefncjjaa", sum := "913c65da47e6a84aa2ac4acacf11b993eee60d1f8256938b15c58c91f016ea20", func := "loop.example/g00846/laws.FnExactEndsOf", spec := "fnExactEndsOf", unfollowed := true, recurses := true, apart := false }
def FnExactEndsOfSaid : Prop := fnExactEndsOfRow.holds Try.pinned (OpenSpec.ofChange fnExactEndsOfSpec)

/-- ITS FALSE NEIGHBOUR: 'it returns false'. Refute it at one input. -/
def fnExactEndsOfWrong : ChangeSpec := { name := "fnExactEndsOf", fn := fun _ => fun
  | [d] => { results := [.lit (.bool false)], args := [d] }
  | _ => none }
def FnExactEndsOfWrongFalsely : Prop := fnExactEndsOfRow.holds Try.pinned (OpenSpec.ofChange fnExactEndsOfWrong)

/-- 'laws.FnExactIsForced': WHATEVER THE INPUT: true; the input reads as it did. -/
def fnExactIsForcedSpec : ChangeSpec := { name := "fnExactIsForced", fn := fun _ => fun
  | [d1, d2] => { results := [.lit (.bool true)], args := [d1, d2] }
  | _ => none }
def fnExactIsForcedRow : OpenClaim := { program := "ytgldcbcefncjjaa", sum := "913c65da47e6a84aa2ac4acacf11b993eee60d1f8256938b15c58c91f016ea20", func := "loop.example/g00846/laws.FnExactIsForced", spec := "fnExactIsForced", unfollowed := true, recurses := true, apart := false }
def FnExactIsForcedSaid : Prop := fnExactIsForcedRow.holds Try.pinned (OpenSpec.ofChange fnExactIsForcedSpec)

/-- ITS FALSE NEIGHBOUR: 'it returns false'. Refute it at one input. -/
def fnExactIsForcedWrong : ChangeSpec := { name := "fnExactIsForced", fn := fun _ => fun
  | [d1, d2] => { results := [.lit (.bool false)], args := [d1, d2] }
  | _ => none }
def FnExactIsForcedWrongFalsely : Prop := fnExactIsForcedRow.holds Try.pinned (OpenSpec.ofChange fnExactIsForcedWrong)

/-- 'laws.FnForces': WHATEVER THE INPUT: true; the input reads as it did. -/
def fnForcesSpec : ChangeSpec := { name := "fnForces", fn := fun _ => fun
  | [d] => { results := [.lit (.bool true)], args := [d] }
  | _ => none }
def fnForcesRow : OpenClaim := { program := "ytgldcbcefncjjaa", sum := "913c65da47e6a84aa2ac4acacf11b993eee60d1f8256938b15c58c91f016ea20", func := "loop.example/g00846/laws.FnForces", spec := "fnForces", unfollowed := true, recurses := true, apart := false }
def FnForcesSaid : Prop := fnForcesRow.holds Try.pinned (OpenSpec.ofChange fnForcesSpec)

/-- ITS FALSE NEIGHBOUR: 'it returns false'. Refute it at one input. -/
def fnForcesWrong : ChangeSpec := { name := "fnForces", fn := fun _ => fun
  | [d] => { results := [.lit (.bool false)], args := [d] }
  | _ => none }
def FnForcesWrongFalsely : Prop := fnForcesRow.holds Try.pinned (OpenSpec.ofChange fnForcesWrong)

/-- 'laws.FnEquivocal': WHATEVER THE INPUT: true; the input reads as it did. -/
def fnEquivocalSpec : ChangeSpec := { name := "fnEquivocal", fn := fun _ => fun
  | [d] => { results := [.lit (.bool true)], args := [d] }
  | _ => none }
def fnEquivocalRow : OpenClaim := { program := "ytgldcbcefncjjaa", sum := "913c65da47e6a84aa2ac4acacf11b993eee60d1f8256938b15c58c91f016ea20", func := "loop.example/g00846/laws.FnEquivocal", spec := "fnEquivocal", unfollowed := true, recurses := true, apart := false }
def FnEquivocalSaid : Prop := fnEquivocalRow.holds Try.pinned (OpenSpec.ofChange fnEquivocalSpec)

/-- ITS FALSE NEIGHBOUR: 'it returns false'. Refute it at one input. -/
def fnEquivocalWrong : ChangeSpec := { name := "fnEquivocal", fn := fun _ => fun
  | [d] => { results := [.lit (.bool false)], args := [d] }
  | _ => none }
def FnEquivocalWrongFalsely : Prop := fnEquivocalRow.holds Try.pinned (OpenSpec.ofChange fnEquivocalWrong)

/-- 'laws.FnExactMessagesOf': WHATEVER THE INPUT: true; the input reads as it did. -/
def fnExactMessagesOfSpec : ChangeSpec := { name := "fnExactMessagesOf", fn := fun _ => fun
  | [d1, d2] => { results := [.lit (.bool true)], args := [d1, d2] }
  | _ => none }
def fnExactMessagesOfRow : OpenClaim := { program := "ytgldcbcefncjjaa", sum := "913c65da47e6a84aa2ac4acacf11b993eee60d1f8256938b15c58c91f016ea20", func := "loop.example/g00846/laws.FnExactMessagesOf", spec := "fnExactMessagesOf", recurses := true, apart := false }
def FnExactMessagesOfSaid : Prop := fnExactMessagesOfRow.holds Try.pinned (OpenSpec.ofChange fnExactMessagesOfSpec)

/-- ITS FALSE NEIGHBOUR: 'it returns false'. Refute it at one input. -/
def fnExactMessagesOfWrong : ChangeSpec := { name := "fnExactMessagesOf", fn := fun _ => fun
  | [d1, d2] => { results := [.lit (.bool false)], args := [d1, d2] }
  | _ => none }
def FnExactMessagesOfWrongFalsely : Prop := fnExactMessagesOfRow.holds Try.pinned (OpenSpec.ofChange fnExactMessagesOfWrong)

/-- 'laws.FnExactShortestFaro': WHATEVER THE INPUT: true; the input reads as it did. -/
def fnExactShortestFaroSpec : ChangeSpec := { name := "fnExactShortestFaro", fn := fun _ => fun
  | [d1, d2, d3] => { results := [.lit (.bool true)], args := [d1, d2, d3] }
  | _ => none }
def fnExactShortestFaroRow : OpenClaim := { program := "ytgldcbcefncjjaa", sum := "913c65da47e6a84aa2ac4acacf11b993eee60d1f8256938b15c58c91f016ea20", func := "loop.example/g00846/laws.FnExactShortestFaro", spec := "fnExactShortestFaro", unfollowed := true, recurses := true, apart := false }
def FnExactShortestFaroSaid : Prop := fnExactShortestFaroRow.holds Try.pinned (OpenSpec.ofChange fnExactShortestFaroSpec)

/-- ITS FALSE NEIGHBOUR: 'it returns false'. Refute it at one input. -/
def fnExactShortestFaroWrong : ChangeSpec := { name := "fnExactShortestFaro", fn := fun _ => fun
  | [d1, d2, d3] => { results := [.lit (.bool false)], args := [d1, d2, d3] }
  | _ => none }
def FnExactShortestFaroWrongFalsely : Prop := fnExactShortestFaroRow.holds Try.pinned (OpenSpec.ofChange fnExactShortestFaroWrong)

/-- 'laws.FnExactKnownIndexOf': WHATEVER THE INPUT: true; the input reads as it did. -/
def fnExactKnownIndexOfSpec : ChangeSpec := { name := "fnExactKnownIndexOf", fn := fun _ => fun
  | [d1, d2] => { results := [.lit (.bool true)], args := [d1, d2] }
  | _ => none }
def fnExactKnownIndexOfRow : OpenClaim := { program := "ytgldcbcefncjjaa", sum := "913c65da47e6a84aa2ac4acacf11b993eee60d1f8256938b15c58c91f016ea20", func := "loop.example/g00846/laws.FnExactKnownIndexOf", spec := "fnExactKnownIndexOf", unfollowed := true, recurses := true, apart := false }
def FnExactKnownIndexOfSaid : Prop := fnExactKnownIndexOfRow.holds Try.pinned (OpenSpec.ofChange fnExactKnownIndexOfSpec)

/-- ITS FALSE NEIGHBOUR: 'it returns false'. Refute it at one input. -/
def fnExactKnownIndexOfWrong : ChangeSpec := { name := "fnExactKnownIndexOf", fn := fun _ => fun
  | [d1, d2] => { results := [.lit (.bool false)], args := [d1, d2] }
  | _ => none }
def FnExactKnownIndexOfWrongFalsely : Prop := fnExactKnownIndexOfRow.holds Try.pinned (OpenSpec.ofChange fnExactKnownIndexOfWrong)

/- THE SECOND FORM. 'bulk': how many values and letters a reading holds, each counted each time it is reached (what is shared counts as often as it is met; a slice's spare places count too). A statement '..UptoSaid' is the law's where the arguments, and the package variables that the reading takes, are together of bulk at most 1048576: NARROWER than '..Said'. Prove '..Said' where nothing that the law and all that it calls make is longer than what came in: it says more and counts as full. Else prove '..UptoSaid'. A law counts once. -/
mutual
def uptoBulk {H : Type} : DataW H → Nat
  | .lit (.string bytes) => bytes.length + 1
  | .lit _ => 1
  | .nil => 1
  | .ptr d => uptoBulk d + 1
  | .slice elems spare => uptoBulkAll elems + uptoBulkAll spare + 1
  | .agg parts => uptoBulkAll parts + 1
  | .iface _ d => uptoBulk d + 1
  | .map entries => uptoBulkEntries entries + 1
  | .held _ => 1
def uptoBulkAll {H : Type} : List (DataW H) → Nat
  | [] => 0
  | d :: r => uptoBulk d + uptoBulkAll r
def uptoBulkEntries {H : Type} : List (Lit × DataW H) → Nat
  | [] => 0
  | x :: r => uptoBulkEntry x + uptoBulkEntries r
def uptoBulkEntry {H : Type} : Lit × DataW H → Nat
  | (.string bytes, d) => bytes.length + uptoBulk d + 1
  | (_, d) => uptoBulk d + 1
 end
def uptoSmall : (H : Type) → List (DataW H) → Bool := fun _ ds => decide (uptoBulkAll ds ≤ 1048576)
def OpenSpec.upto (s : _root_.Go.ChangeSpec) : _root_.Go.OpenSpec := { _root_.Go.OpenSpec.ofChange s with cond := some uptoSmall }

/-- 'laws.FnExactFourForce', WHERE WHAT IT READS IS OF BULK AT MOST 1048576: true; the input reads as it did. -/
def fnExactFourForceUptoRow : OpenClaim := { program := "ytgldcbcefncjjaa", sum := "913c65da47e6a84aa2ac4acacf11b993eee60d1f8256938b15c58c91f016ea20", func := "loop.example/g00846/laws.FnExactFourForce", spec := "fnExactFourForce", apart := false, narrowed := true }
def FnExactFourForceUptoSaid : Prop := fnExactFourForceUptoRow.holds Try.pinned (OpenSpec.upto fnExactFourForceSpec)

/-- 'laws.FnExactPairForce', WHERE WHAT IT READS IS OF BULK AT MOST 1048576: true; the input reads as it did. -/
def fnExactPairForceUptoRow : OpenClaim := { program := "ytgldcbcefncjjaa", sum := "913c65da47e6a84aa2ac4acacf11b993eee60d1f8256938b15c58c91f016ea20", func := "loop.example/g00846/laws.FnExactPairForce", spec := "fnExactPairForce", apart := false, narrowed := true }
def FnExactPairForceUptoSaid : Prop := fnExactPairForceUptoRow.holds Try.pinned (OpenSpec.upto fnExactPairForceSpec)

/-- 'laws.FnExactAnswersTo', WHERE WHAT IT READS IS OF BULK AT MOST 1048576: true; the input reads as it did. -/
def fnExactAnswersToUptoRow : OpenClaim := { program := "ytgldcbcefncjjaa", sum := "913c65da47e6a84aa2ac4acacf11b993eee60d1f8256938b15c58c91f016ea20", func := "loop.example/g00846/laws.FnExactAnswersTo", spec := "fnExactAnswersTo", unfollowed := true, recurses := true, apart := false, narrowed := true }
def FnExactAnswersToUptoSaid : Prop := fnExactAnswersToUptoRow.holds Try.pinned (OpenSpec.upto fnExactAnswersToSpec)

/-- 'laws.FnExactEndsOf', WHERE WHAT IT READS IS OF BULK AT MOST 1048576: true; the input reads as it did. -/
def fnExactEndsOfUptoRow : OpenClaim := { program := "ytgldcbcefncjjaa", sum := "913c65da47e6a84aa2ac4acacf11b993eee60d1f8256938b15c58c91f016ea20", func := "loop.example/g00846/laws.FnExactEndsOf", spec := "fnExactEndsOf", unfollowed := true, recurses := true, apart := false, narrowed := true }
def FnExactEndsOfUptoSaid : Prop := fnExactEndsOfUptoRow.holds Try.pinned (OpenSpec.upto fnExactEndsOfSpec)

/-- 'laws.FnExactIsForced', WHERE WHAT IT READS IS OF BULK AT MOST 1048576: true; the input reads as it did. -/
def fnExactIsForcedUptoRow : OpenClaim := { program := "ytgldcbcefncjjaa", sum := "913c65da47e6a84aa2ac4acacf11b993eee60d1f8256938b15c58c91f016ea20", func := "loop.example/g00846/laws.FnExactIsForced", spec := "fnExactIsForced", unfollowed := true, recurses := true, apart := false, narrowed := true }
def FnExactIsForcedUptoSaid : Prop := fnExactIsForcedUptoRow.holds Try.pinned (OpenSpec.upto fnExactIsForcedSpec)

/-- 'laws.FnForces', WHERE WHAT IT READS IS OF BULK AT MOST 1048576: true; the input reads as it did. -/
def fnForcesUptoRow : OpenClaim := { program := "ytgldcbcefncjjaa", sum := "913c65da47e6a84aa2ac4acacf11b993eee60d1f8256938b15c58c91f016ea20", func := "loop.example/g00846/laws.FnForces", spec := "fnForces", unfollowed := true, recurses := true, apart := false, narrowed := true }
def FnForcesUptoSaid : Prop := fnForcesUptoRow.holds Try.pinned (OpenSpec.upto fnForcesSpec)

/-- 'laws.FnEquivocal', WHERE WHAT IT READS IS OF BULK AT MOST 1048576: true; the input reads as it did. -/
def fnEquivocalUptoRow : OpenClaim := { program := "ytgldcbcefncjjaa", sum := "913c65da47e6a84aa2ac4acacf11b993eee60d1f8256938b15c58c91f016ea20", func := "loop.example/g00846/laws.FnEquivocal", spec := "fnEquivocal", unfollowed := true, recurses := true, apart := false, narrowed := true }
def FnEquivocalUptoSaid : Prop := fnEquivocalUptoRow.holds Try.pinned (OpenSpec.upto fnEquivocalSpec)

/-- 'laws.FnExactMessagesOf', WHERE WHAT IT READS IS OF BULK AT MOST 1048576: true; the input reads as it did. -/
def fnExactMessagesOfUptoRow : OpenClaim := { program := "ytgldcbcefncjjaa", sum := "913c65da47e6a84aa2ac4acacf11b993eee60d1f8256938b15c58c91f016ea20", func := "loop.example/g00846/laws.FnExactMessagesOf", spec := "fnExactMessagesOf", recurses := true, apart := false, narrowed := true }
def FnExactMessagesOfUptoSaid : Prop := fnExactMessagesOfUptoRow.holds Try.pinned (OpenSpec.upto fnExactMessagesOfSpec)

/-- 'laws.FnExactShortestFaro', WHERE WHAT IT READS IS OF BULK AT MOST 1048576: true; the input reads as it did. -/
def fnExactShortestFaroUptoRow : OpenClaim := { program := "ytgldcbcefncjjaa", sum := "913c65da47e6a84aa2ac4acacf11b993eee60d1f8256938b15c58c91f016ea20", func := "loop.example/g00846/laws.FnExactShortestFaro", spec := "fnExactShortestFaro", unfollowed := true, recurses := true, apart := false, narrowed := true }
def FnExactShortestFaroUptoSaid : Prop := fnExactShortestFaroUptoRow.holds Try.pinned (OpenSpec.upto fnExactShortestFaroSpec)

/-- 'laws.FnExactKnownIndexOf', WHERE WHAT IT READS IS OF BULK AT MOST 1048576: true; the input reads as it did. -/
def fnExactKnownIndexOfUptoRow : OpenClaim := { program := "ytgldcbcefncjjaa", sum := "913c65da47e6a84aa2ac4acacf11b993eee60d1f8256938b15c58c91f016ea20", func := "loop.example/g00846/laws.FnExactKnownIndexOf", spec := "fnExactKnownIndexOf", unfollowed := true, recurses := true, apart := false, narrowed := true }
def FnExactKnownIndexOfUptoSaid : Prop := fnExactKnownIndexOfUptoRow.holds Try.pinned (OpenSpec.upto fnExactKnownIndexOfSpec)

end Rows
end Go.Proofs.Ytgldcbcefncjjaa
