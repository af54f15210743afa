/-
  No cell of these rows narrows 'for every input' (looked for: loops, veiled, ifaces, maps, wideKeys, modest, calm, conditions, laid).
  DERIVED. THE GIVEN ROWS OF THIS SEAT. 12 by the template 'for every input the law returns true; each argument reads behind the call as it read before'; 0 by the template 'total and deterministic' (their statements: YtclmicogljidkaaTotals.lean).
  GIVEN WITH THE SEED: the statements are not yours to turn. If you find one false, say at which input.
  Laid BY PROGRAM, IN A SANDBOX (cutbox-rows.mjs): the forced cells as the released guide's own fill.sh prints them over the translation 7eddaad9ef3897b1… (all of the seat's roots in one cut). By AI agents, Wed Nov 11 2026. No macro, syntax, notation, axiom, sorry.
-/
import Derived.Test.YtclmicogljidkaaChecked
import GoSem.Claim
import GoSem.ClaimJoined
import GoSem.ClaimMapViews
import Derived.JoinedTies
import Derived.KernelRfl
namespace Go.Proofs.Ytclmicogljidkaa
/- THE CELL 'sum', in the pinned program and in every row, IS THE sha256 OF THE DUMP (.gsa) THAT YtclmicogljidkaaProg.lean LOADS. Nothing in Lean hashes anything: it is a label: what it is worth is what the hold of that sum in a sandbox is worth. -/
noncomputable def Try.pinned : Pinned := { name := "ytclmicogljidkaa", sum := "7eddaad9ef3897b11fcb22da10cd15da79f81687ed3743493f3edf532e1d62d2", checked := Try.checked }
namespace Rows
def none {H : Type} : Left H := { results := [], args := [] }

/-- 'laws.FnExactDeBruijn': WHATEVER THE INPUT: true; the input reads as it did. -/
def fnExactDeBruijnSpec : ChangeSpec := { name := "fnExactDeBruijn", fn := fun _ => fun
  | [d] => { results := [.lit (.bool true)], args := [d] }
  | _ => none }
def fnExactDeBruijnRow : OpenClaim := { program := "ytclmicogljidkaa", sum := "7eddaad9ef3897b11fcb22da10cd15da79f81687ed3743493f3edf532e1d62d2", func := "loop.example/g00846/laws.FnExactDeBruijn", spec := "fnExactDeBruijn", apart := false }
def FnExactDeBruijnSaid : Prop := fnExactDeBruijnRow.holds Try.pinned (OpenSpec.ofChange fnExactDeBruijnSpec)

/-- ITS FALSE NEIGHBOUR: 'it returns false'. Refute it at one input. -/
def fnExactDeBruijnWrong : ChangeSpec := { name := "fnExactDeBruijn", fn := fun _ => fun
  | [d] => { results := [.lit (.bool false)], args := [d] }
  | _ => none }
def FnExactDeBruijnWrongFalsely : Prop := fnExactDeBruijnRow.holds Try.pinned (OpenSpec.ofChange fnExactDeBruijnWrong)

/-- 'laws.FnExactMessagesOf': WHATEVER THE INPUT: true; the input reads as it did. -/
def fnExactMessagesOfSpec : ChangeSpec := { name := "fnExactMessagesOf", fn := fun _ => fun
  | [d1, d2] => { results := [.lit (.bool true)], args := [d1, d2] }
  | _ => none }
def fnExactMessagesOfRow : OpenClaim := { program := "ytclmicogljidkaa", sum := "7eddaad9ef3897b11fcb22da10cd15da79f81687ed3743493f3edf532e1d62d2", func := "loop.example/g00846/laws.FnExactMessagesOf", spec := "fnExactMessagesOf", recurses := true, apart := false }
def FnExactMessagesOfSaid : Prop := fnExactMessagesOfRow.holds Try.pinned (OpenSpec.ofChange fnExactMessagesOfSpec)

/-- ITS FALSE NEIGHBOUR: 'it returns false'. Refute it at one input. -/
def fnExactMessagesOfWrong : ChangeSpec := { name := "fnExactMessagesOf", fn := fun _ => fun
  | [d1, d2] => { results := [.lit (.bool false)], args := [d1, d2] }
  | _ => none }
def FnExactMessagesOfWrongFalsely : Prop := fnExactMessagesOfRow.holds Try.pinned (OpenSpec.ofChange fnExactMessagesOfWrong)

/-- 'laws.FnExactDealOrder': WHATEVER THE INPUT: true; the input reads as it did. -/
def fnExactDealOrderSpec : ChangeSpec := { name := "fnExactDealOrder", fn := fun _ => fun
  | [d1, d2] => { results := [.lit (.bool true)], args := [d1, d2] }
  | _ => none }
def fnExactDealOrderRow : OpenClaim := { program := "ytclmicogljidkaa", sum := "7eddaad9ef3897b11fcb22da10cd15da79f81687ed3743493f3edf532e1d62d2", func := "loop.example/g00846/laws.FnExactDealOrder", spec := "fnExactDealOrder", apart := false }
def FnExactDealOrderSaid : Prop := fnExactDealOrderRow.holds Try.pinned (OpenSpec.ofChange fnExactDealOrderSpec)

/-- ITS FALSE NEIGHBOUR: 'it returns false'. Refute it at one input. -/
def fnExactDealOrderWrong : ChangeSpec := { name := "fnExactDealOrder", fn := fun _ => fun
  | [d1, d2] => { results := [.lit (.bool false)], args := [d1, d2] }
  | _ => none }
def FnExactDealOrderWrongFalsely : Prop := fnExactDealOrderRow.holds Try.pinned (OpenSpec.ofChange fnExactDealOrderWrong)

/-- 'laws.FnExactForceOk': WHATEVER THE INPUT: true; the input reads as it did. -/
def fnExactForceOkSpec : ChangeSpec := { name := "fnExactForceOk", fn := fun _ => fun
  | [d] => { results := [.lit (.bool true)], args := [d] }
  | _ => none }
def fnExactForceOkRow : OpenClaim := { program := "ytclmicogljidkaa", sum := "7eddaad9ef3897b11fcb22da10cd15da79f81687ed3743493f3edf532e1d62d2", func := "loop.example/g00846/laws.FnExactForceOk", spec := "fnExactForceOk", unfollowed := true, recurses := true, apart := false }
def FnExactForceOkSaid : Prop := fnExactForceOkRow.holds Try.pinned (OpenSpec.ofChange fnExactForceOkSpec)

/-- ITS FALSE NEIGHBOUR: 'it returns false'. Refute it at one input. -/
def fnExactForceOkWrong : ChangeSpec := { name := "fnExactForceOk", fn := fun _ => fun
  | [d] => { results := [.lit (.bool false)], args := [d] }
  | _ => none }
def FnExactForceOkWrongFalsely : Prop := fnExactForceOkRow.holds Try.pinned (OpenSpec.ofChange fnExactForceOkWrong)

/-- 'laws.FnExactPilesOf': WHATEVER THE INPUT: true; the input reads as it did. -/
def fnExactPilesOfSpec : ChangeSpec := { name := "fnExactPilesOf", fn := fun _ => fun
  | [d1, d2] => { results := [.lit (.bool true)], args := [d1, d2] }
  | _ => none }
def fnExactPilesOfRow : OpenClaim := { program := "ytclmicogljidkaa", sum := "7eddaad9ef3897b11fcb22da10cd15da79f81687ed3743493f3edf532e1d62d2", func := "loop.example/g00846/laws.FnExactPilesOf", spec := "fnExactPilesOf", apart := false }
def FnExactPilesOfSaid : Prop := fnExactPilesOfRow.holds Try.pinned (OpenSpec.ofChange fnExactPilesOfSpec)

/-- ITS FALSE NEIGHBOUR: 'it returns false'. Refute it at one input. -/
def fnExactPilesOfWrong : ChangeSpec := { name := "fnExactPilesOf", fn := fun _ => fun
  | [d1, d2] => { results := [.lit (.bool false)], args := [d1, d2] }
  | _ => none }
def FnExactPilesOfWrongFalsely : Prop := fnExactPilesOfRow.holds Try.pinned (OpenSpec.ofChange fnExactPilesOfWrong)

/-- 'laws.FnExactIsMaximal': WHATEVER THE INPUT: true; the input reads as it did. -/
def fnExactIsMaximalSpec : ChangeSpec := { name := "fnExactIsMaximal", fn := fun _ => fun
  | [d1, d2] => { results := [.lit (.bool true)], args := [d1, d2] }
  | _ => none }
def fnExactIsMaximalRow : OpenClaim := { program := "ytclmicogljidkaa", sum := "7eddaad9ef3897b11fcb22da10cd15da79f81687ed3743493f3edf532e1d62d2", func := "loop.example/g00846/laws.FnExactIsMaximal", spec := "fnExactIsMaximal", unfollowed := true, recurses := true, apart := false }
def FnExactIsMaximalSaid : Prop := fnExactIsMaximalRow.holds Try.pinned (OpenSpec.ofChange fnExactIsMaximalSpec)

/-- ITS FALSE NEIGHBOUR: 'it returns false'. Refute it at one input. -/
def fnExactIsMaximalWrong : ChangeSpec := { name := "fnExactIsMaximal", fn := fun _ => fun
  | [d1, d2] => { results := [.lit (.bool false)], args := [d1, d2] }
  | _ => none }
def FnExactIsMaximalWrongFalsely : Prop := fnExactIsMaximalRow.holds Try.pinned (OpenSpec.ofChange fnExactIsMaximalWrong)

/-- 'laws.FnExactShortestFaro': WHATEVER THE INPUT: true; the input reads as it did. -/
def fnExactShortestFaroSpec : ChangeSpec := { name := "fnExactShortestFaro", fn := fun _ => fun
  | [d1, d2, d3] => { results := [.lit (.bool true)], args := [d1, d2, d3] }
  | _ => none }
def fnExactShortestFaroRow : OpenClaim := { program := "ytclmicogljidkaa", sum := "7eddaad9ef3897b11fcb22da10cd15da79f81687ed3743493f3edf532e1d62d2", func := "loop.example/g00846/laws.FnExactShortestFaro", spec := "fnExactShortestFaro", unfollowed := true, recurses := true, apart := false }
def FnExactShortestFaroSaid : Prop := fnExactShortestFaroRow.holds Try.pinned (OpenSpec.ofChange fnExactShortestFaroSpec)

/-- ITS FALSE NEIGHBOUR: 'it returns false'. Refute it at one input. -/
def fnExactShortestFaroWrong : ChangeSpec := { name := "fnExactShortestFaro", fn := fun _ => fun
  | [d1, d2, d3] => { results := [.lit (.bool false)], args := [d1, d2, d3] }
  | _ => none }
def FnExactShortestFaroWrongFalsely : Prop := fnExactShortestFaroRow.holds Try.pinned (OpenSpec.ofChange fnExactShortestFaroWrong)

/-- 'laws.FnExactFaroRun': WHATEVER THE INPUT: true; the input reads as it did. -/
def fnExactFaroRunSpec : ChangeSpec := { name := "fnExactFaroRun", fn := fun _ => fun
  | [d1, d2] => { results := [.lit (.bool true)], args := [d1, d2] }
  | _ => none }
def fnExactFaroRunRow : OpenClaim := { program := "ytclmicogljidkaa", sum := "7eddaad9ef3897b11fcb22da10cd15da79f81687ed3743493f3edf532e1d62d2", func := "loop.example/g00846/laws.FnExactFaroRun", spec := "fnExactFaroRun", unfollowed := true, recurses := true, apart := false }
def FnExactFaroRunSaid : Prop := fnExactFaroRunRow.holds Try.pinned (OpenSpec.ofChange fnExactFaroRunSpec)

/-- ITS FALSE NEIGHBOUR: 'it returns false'. Refute it at one input. -/
def fnExactFaroRunWrong : ChangeSpec := { name := "fnExactFaroRun", fn := fun _ => fun
  | [d1, d2] => { results := [.lit (.bool false)], args := [d1, d2] }
  | _ => none }
def FnExactFaroRunWrongFalsely : Prop := fnExactFaroRunRow.holds Try.pinned (OpenSpec.ofChange fnExactFaroRunWrong)

/-- 'laws.FnExactFourForce': WHATEVER THE INPUT: true; the input reads as it did. -/
def fnExactFourForceSpec : ChangeSpec := { name := "fnExactFourForce", fn := fun _ => fun
  | [d1, d2] => { results := [.lit (.bool true)], args := [d1, d2] }
  | _ => none }
def fnExactFourForceRow : OpenClaim := { program := "ytclmicogljidkaa", sum := "7eddaad9ef3897b11fcb22da10cd15da79f81687ed3743493f3edf532e1d62d2", func := "loop.example/g00846/laws.FnExactFourForce", spec := "fnExactFourForce", apart := false }
def FnExactFourForceSaid : Prop := fnExactFourForceRow.holds Try.pinned (OpenSpec.ofChange fnExactFourForceSpec)

/-- ITS FALSE NEIGHBOUR: 'it returns false'. Refute it at one input. -/
def fnExactFourForceWrong : ChangeSpec := { name := "fnExactFourForce", fn := fun _ => fun
  | [d1, d2] => { results := [.lit (.bool false)], args := [d1, d2] }
  | _ => none }
def FnExactFourForceWrongFalsely : Prop := fnExactFourForceRow.holds Try.pinned (OpenSpec.ofChange fnExactFourForceWrong)

/-- 'laws.FnExactPairForce': WHATEVER THE INPUT: true; the input reads as it did. -/
def fnExactPairForceSpec : ChangeSpec := { name := "fnExactPairForce", fn := fun _ => fun
  | [d1, d2] => { results := [.lit (.bool true)], args := [d1, d2] }
  | _ => none }
def fnExactPairForceRow : OpenClaim := { program := "ytclmicogljidkaa", sum := "7eddaad9ef3897b11fcb22da10cd15da79f81687ed3743493f3edf532e1d62d2", func := "loop.example/g00846/laws.FnExactPairForce", spec := "fnExactPairForce", apart := false }
def FnExactPairForceSaid : Prop := fnExactPairForceRow.holds Try.pinned (OpenSpec.ofChange fnExactPairForceSpec)

/-- ITS FALSE NEIGHBOUR: 'it returns false'. Refute it at one input. -/
def fnExactPairForceWrong : ChangeSpec := { name := "fnExactPairForce", fn := fun _ => fun
  | [d1, d2] => { results := [.lit (.bool false)], args := [d1, d2] }
  | _ => none }
def FnExactPairForceWrongFalsely : Prop := fnExactPairForceRow.holds Try.pinned (OpenSpec.ofChange fnExactPairForceWrong)

/-- 'laws.FnExactPlayForce': WHATEVER THE INPUT: true; the input reads as it did. -/
def fnExactPlayForceSpec : ChangeSpec := { name := "fnExactPlayForce", fn := fun _ => fun
  | [d1, d2] => { results := [.lit (.bool true)], args := [d1, d2] }
  | _ => none }
def fnExactPlayForceRow : OpenClaim := { program := "ytclmicogljidkaa", sum := "7eddaad9ef3897b11fcb22da10cd15da79f81687ed3743493f3edf532e1d62d2", func := "loop.example/g00846/laws.FnExactPlayForce", spec := "fnExactPlayForce", unfollowed := true, recurses := true, apart := false }
def FnExactPlayForceSaid : Prop := fnExactPlayForceRow.holds Try.pinned (OpenSpec.ofChange fnExactPlayForceSpec)

/-- ITS FALSE NEIGHBOUR: 'it returns false'. Refute it at one input. -/
def fnExactPlayForceWrong : ChangeSpec := { name := "fnExactPlayForce", fn := fun _ => fun
  | [d1, d2] => { results := [.lit (.bool false)], args := [d1, d2] }
  | _ => none }
def FnExactPlayForceWrongFalsely : Prop := fnExactPlayForceRow.holds Try.pinned (OpenSpec.ofChange fnExactPlayForceWrong)

/-- 'laws.FnExactDepthOfForce': WHATEVER THE INPUT: true; the input reads as it did. -/
def fnExactDepthOfForceSpec : ChangeSpec := { name := "fnExactDepthOfForce", fn := fun _ => fun
  | [d] => { results := [.lit (.bool true)], args := [d] }
  | _ => none }
def fnExactDepthOfForceRow : OpenClaim := { program := "ytclmicogljidkaa", sum := "7eddaad9ef3897b11fcb22da10cd15da79f81687ed3743493f3edf532e1d62d2", func := "loop.example/g00846/laws.FnExactDepthOfForce", spec := "fnExactDepthOfForce", unfollowed := true, recurses := true, apart := false }
def FnExactDepthOfForceSaid : Prop := fnExactDepthOfForceRow.holds Try.pinned (OpenSpec.ofChange fnExactDepthOfForceSpec)

/-- ITS FALSE NEIGHBOUR: 'it returns false'. Refute it at one input. -/
def fnExactDepthOfForceWrong : ChangeSpec := { name := "fnExactDepthOfForce", fn := fun _ => fun
  | [d] => { results := [.lit (.bool false)], args := [d] }
  | _ => none }
def FnExactDepthOfForceWrongFalsely : Prop := fnExactDepthOfForceRow.holds Try.pinned (OpenSpec.ofChange fnExactDepthOfForceWrong)

/- THE SECOND FORM. 'bulk': how many values and letters a reading holds, each counted each time it is reached (what is shared counts as often as it is met; a slice's spare places count too). A statement '..UptoSaid' is the law's where the arguments, and the package variables that the reading takes, are together of bulk at most 1048576: NARROWER than '..Said'. Prove '..Said' where nothing that the law and all that it calls make is longer than what came in: it says more and counts as full. Else prove '..UptoSaid'. A law counts once. -/
mutual
def uptoBulk {H : Type} : DataW H → Nat
  | .lit (.string bytes) => bytes.length + 1
  | .lit _ => 1
  | .nil => 1
  | .ptr d => uptoBulk d + 1
  | .slice elems spare => uptoBulkAll elems + uptoBulkAll spare + 1
  | .agg parts => uptoBulkAll parts + 1
  | .iface _ d => uptoBulk d + 1
  | .map entries => uptoBulkEntries entries + 1
  | .held _ => 1
def uptoBulkAll {H : Type} : List (DataW H) → Nat
  | [] => 0
  | d :: r => uptoBulk d + uptoBulkAll r
def uptoBulkEntries {H : Type} : List (Lit × DataW H) → Nat
  | [] => 0
  | x :: r => uptoBulkEntry x + uptoBulkEntries r
def uptoBulkEntry {H : Type} : Lit × DataW H → Nat
  | (.string bytes, d) => bytes.length + uptoBulk d + 1
  | (_, d) => uptoBulk d + 1
 end
def uptoSmall : (H : Type) → List (DataW H) → Bool := fun _ ds => decide (uptoBulkAll ds ≤ 1048576)
def OpenSpec.upto (s : _root_.Go.ChangeSpec) : _root_.Go.OpenSpec := { _root_.Go.OpenSpec.ofChange s with cond := some uptoSmall }

/-- 'laws.FnExactDeBruijn', WHERE WHAT IT READS IS OF BULK AT MOST 1048576: true; the input reads as it did. -/
def fnExactDeBruijnUptoRow : OpenClaim := { program := "ytclmicogljidkaa", sum := "7eddaad9ef3897b11fcb22da10cd15da79f81687ed3743493f3edf532e1d62d2", func := "loop.example/g00846/laws.FnExactDeBruijn", spec := "fnExactDeBruijn", apart := false, narrowed := true }
def FnExactDeBruijnUptoSaid : Prop := fnExactDeBruijnUptoRow.holds Try.pinned (OpenSpec.upto fnExactDeBruijnSpec)

/-- 'laws.FnExactMessagesOf', WHERE WHAT IT READS IS OF BULK AT MOST 1048576: true; the input reads as it did. -/
def fnExactMessagesOfUptoRow : OpenClaim := { program := "ytclmicogljidkaa", sum := "7eddaad9ef3897b11fcb22da10cd15da79f81687ed3743493f3edf532e1d62d2", func := "loop.example/g00846/laws.FnExactMessagesOf", spec := "fnExactMessagesOf", recurses := true, apart := false, narrowed := true }
def FnExactMessagesOfUptoSaid : Prop := fnExactMessagesOfUptoRow.holds Try.pinned (OpenSpec.upto fnExactMessagesOfSpec)

/-- 'laws.FnExactDealOrder', WHERE WHAT IT READS IS OF BULK AT MOST 1048576: true; the input reads as it did. -/
def fnExactDealOrderUptoRow : OpenClaim := { program := "ytclmicogljidkaa", sum := "7eddaad9ef3897b11fcb22da10cd15da79f81687ed3743493f3edf532e1d62d2", func := "loop.example/g00846/laws.FnExactDealOrder", spec := "fnExactDealOrder", apart := false, narrowed := true }
def FnExactDealOrderUptoSaid : Prop := fnExactDealOrderUptoRow.holds Try.pinned (OpenSpec.upto fnExactDealOrderSpec)

/-- 'laws.FnExactForceOk', WHERE WHAT IT READS IS OF BULK AT MOST 1048576: true; the input reads as it did. -/
def fnExactForceOkUptoRow : OpenClaim := { program := "ytclmicogljidkaa", sum := "7eddaad9ef3897b11fcb22da10cd15da79f81687ed3743493f3edf532e1d62d2", func := "loop.example/g00846/laws.FnExactForceOk", spec := "fnExactForceOk", unfollowed := true, recurses := true, apart := false, narrowed := true }
def FnExactForceOkUptoSaid : Prop := fnExactForceOkUptoRow.holds Try.pinned (OpenSpec.upto fnExactForceOkSpec)

/-- 'laws.FnExactPilesOf', WHERE WHAT IT READS IS OF BULK AT MOST 1048576: true; the input reads as it did. -/
def fnExactPilesOfUptoRow : OpenClaim := { program := "ytclmicogljidkaa", sum := "7eddaad9ef3897b11fcb22da10cd15da79f81687ed3743493f3edf532e1d62d2", func := "loop.example/g00846/laws.FnExactPilesOf", spec := "fnExactPilesOf", apart := false, narrowed := true }
def FnExactPilesOfUptoSaid : Prop := fnExactPilesOfUptoRow.holds Try.pinned (OpenSpec.upto fnExactPilesOfSpec)

/-- 'laws.FnExactIsMaximal', WHERE WHAT IT READS IS OF BULK AT MOST 1048576: true; the input reads as it did. -/
def fnExactIsMaximalUptoRow : OpenClaim := { program := "ytclmicogljidkaa", sum := "7eddaad9ef3897b11fcb22da10cd15da79f81687ed3743493f3edf532e1d62d2", func := "loop.example/g00846/laws.FnExactIsMaximal", spec := "fnExactIsMaximal", unfollowed := true, recurses := true, apart := false, narrowed := true }
def FnExactIsMaximalUptoSaid : Prop := fnExactIsMaximalUptoRow.holds Try.pinned (OpenSpec.upto fnExactIsMaximalSpec)

/-- 'laws.FnExactShortestFaro', WHERE WHAT IT READS IS OF BULK AT MOST 1048576: true; the input reads as it did. -/
def fnExactShortestFaroUptoRow : OpenClaim := { program := "ytclmicogljidkaa", sum := "7eddaad9ef3897b11fcb22da10cd15da79f81687ed3743493f3edf532e1d62d2", func := "loop.example/g00846/laws.FnExactShortestFaro", spec := "fnExactShortestFaro", unfollowed := true, recurses := true, apart := false, narrowed := true }
def FnExactShortestFaroUptoSaid : Prop := fnExactShortestFaroUptoRow.holds Try.pinned (OpenSpec.upto fnExactShortestFaroSpec)

/-- 'laws.FnExactFaroRun', WHERE WHAT IT READS IS OF BULK AT MOST 1048576: true; the input reads as it did. -/
def fnExactFaroRunUptoRow : OpenClaim := { program := "ytclmicogljidkaa", sum := "7eddaad9ef3897b11fcb22da10cd15da79f81687ed3743493f3edf532e1d62d2", func := "loop.example/g00846/laws.FnExactFaroRun", spec := "fnExactFaroRun", unfollowed := true, recurses := true, apart := false, narrowed := true }
def FnExactFaroRunUptoSaid : Prop := fnExactFaroRunUptoRow.holds Try.pinned (OpenSpec.upto fnExactFaroRunSpec)

/-- 'laws.FnExactFourForce', WHERE WHAT IT READS IS OF BULK AT MOST 1048576: true; the input reads as it did. -/
def fnExactFourForceUptoRow : OpenClaim := { program := "ytclmicogljidkaa", sum := "7eddaad9ef3897b11fcb22da10cd15da79f81687ed3743493f3edf532e1d62d2", func := "loop.example/g00846/laws.FnExactFourForce", spec := "fnExactFourForce", apart := false, narrowed := true }
def FnExactFourForceUptoSaid : Prop := fnExactFourForceUptoRow.holds Try.pinned (OpenSpec.upto fnExactFourForceSpec)

/-- 'laws.FnExactPairForce', WHERE WHAT IT READS IS OF BULK AT MOST 1048576: true; the input reads as it did. -/
def fnExactPairForceUptoRow : OpenClaim := { program := "ytclmicogljidkaa", sum := "7eddaad9ef3897b11fcb22da10cd15da79f81687ed3743493f3edf532e1d62d2", func := "loop.example/g00846/laws.FnExactPairForce", spec := "fnExactPairForce", apart := false, narrowed := true }
def FnExactPairForceUptoSaid : Prop := fnExactPairForceUptoRow.holds Try.pinned (OpenSpec.upto fnExactPairForceSpec)

/-- 'laws.FnExactPlayForce', WHERE WHAT IT READS IS OF BULK AT MOST 1048576: true; the input reads as it did. -/
def fnExactPlayForceUptoRow : OpenClaim := { program := "ytclmicogljidkaa", sum := "7eddaad9ef3897b11fcb22da10cd15da79f81687ed3743493f3edf532e1d62d2", func := "loop.example/g00846/laws.FnExactPlayForce", spec := "fnExactPlayForce", unfollowed := true, recurses := true, apart := false, narrowed := true }
def FnExactPlayForceUptoSaid : Prop := fnExactPlayForceUptoRow.holds Try.pinned (OpenSpec.upto fnExactPlayForceSpec)

/-- 'laws.FnExactDepthOfForce', WHERE WHAT IT READS IS OF BULK AT MOST 1048576: true; the input reads as it did. -/
def fnExactDepthOfForceUptoRow : OpenClaim := { program := "ytclmicogljidkaa", sum := "7eddaad9ef3897b11fcb22da10cd15da79f81687ed3743493f3edf532e1d62d2", func := "loop.example/g00846/laws.FnExactDepthOfForce", spec := "fnExactDepthOfForce", unfollowed := true, recurses := true, apart := false, narrowed := true }
def FnExactDepthOfForceUptoSaid : Prop := fnExactDepthOfForceUptoRow.holds Try.pinned (OpenSpec.upto fnExactDepthOfForceSpec)

end Rows
end Go.Proofs.Ytclmicogljidkaa
