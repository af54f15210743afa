/-
  No cell of these rows narrows 'for every input' (looked for: loops, veiled, ifaces, maps, wideKeys, modest, calm, conditions, laid).
  DERIVED. THE GIVEN ROWS OF THIS SEAT. 4 by the template 'for every input the law returns true; each argument reads behind the call as it read before'; 0 by the template 'total and deterministic' (their statements: YtobncomimkmoeaaTotals.lean).
  GIVEN WITH THE SEED: the statements are not yours to turn. If you find one false, say at which input.
  Laid BY PROGRAM, IN A SANDBOX (cutbox-rows.mjs): the forced cells as the released guide's own fill.sh prints them over the translation 56f73e37608f7ccd… (all of the seat's roots in one cut). By AI agents, Wed Nov 11 2026. No macro, syntax, notation, axiom, sorry.
-/
import Derived.Test.YtobncomimkmoeaaChecked
import GoSem.Claim
import GoSem.ClaimJoined
import GoSem.ClaimMapViews
import Derived.JoinedTies
import Derived.KernelRfl
namespace Go.Proofs.Ytobncomimkmoeaa
/- THE CELL 'sum', in the pinned program and in every row, IS THE sha256 OF THE DUMP (.gsa) THAT YtobncomimkmoeaaProg.lean LOADS. Nothing in Lean hashes anything: it is a label: what it is worth is what the hold of that sum in a sandbox is worth. -/
noncomputable def Try.pinned : Pinned := { name := "ytobncomimkmoeaa", sum := "56f73e37608f7ccdc954d85a5372530f545984960813487986d5151f44388f2b", checked := Try.checked }
namespace Rows
def none {H : Type} : Left H := { results := [], args := [] }

/-- 'laws.FnExactEncode': WHATEVER THE INPUT: true; the input reads as it did. -/
def fnExactEncodeSpec : ChangeSpec := { name := "fnExactEncode", fn := fun _ => fun
  | [d1, d2] => { results := [.lit (.bool true)], args := [d1, d2] }
  | _ => none }
def fnExactEncodeRow : OpenClaim := { program := "ytobncomimkmoeaa", sum := "56f73e37608f7ccdc954d85a5372530f545984960813487986d5151f44388f2b", func := "loop.example/g00846/laws.FnExactEncode", spec := "fnExactEncode", unfollowed := true, recurses := true, apart := false }
def FnExactEncodeSaid : Prop := fnExactEncodeRow.holds Try.pinned (OpenSpec.ofChange fnExactEncodeSpec)

/-- ITS FALSE NEIGHBOUR: 'it returns false'. Refute it at one input. -/
def fnExactEncodeWrong : ChangeSpec := { name := "fnExactEncode", fn := fun _ => fun
  | [d1, d2] => { results := [.lit (.bool false)], args := [d1, d2] }
  | _ => none }
def FnExactEncodeWrongFalsely : Prop := fnExactEncodeRow.holds Try.pinned (OpenSpec.ofChange fnExactEncodeWrong)

/-- 'laws.FnExactIsHummer': WHATEVER THE INPUT: true; the input reads as it did. -/
def fnExactIsHummerSpec : ChangeSpec := { name := "fnExactIsHummer", fn := fun _ => fun
  | [d1, d2] => { results := [.lit (.bool true)], args := [d1, d2] }
  | _ => none }
def fnExactIsHummerRow : OpenClaim := { program := "ytobncomimkmoeaa", sum := "56f73e37608f7ccdc954d85a5372530f545984960813487986d5151f44388f2b", func := "loop.example/g00846/laws.FnExactIsHummer", spec := "fnExactIsHummer", unfollowed := true, recurses := true, apart := false }
def FnExactIsHummerSaid : Prop := fnExactIsHummerRow.holds Try.pinned (OpenSpec.ofChange fnExactIsHummerSpec)

/-- ITS FALSE NEIGHBOUR: 'it returns false'. Refute it at one input. -/
def fnExactIsHummerWrong : ChangeSpec := { name := "fnExactIsHummer", fn := fun _ => fun
  | [d1, d2] => { results := [.lit (.bool false)], args := [d1, d2] }
  | _ => none }
def FnExactIsHummerWrongFalsely : Prop := fnExactIsHummerRow.holds Try.pinned (OpenSpec.ofChange fnExactIsHummerWrong)

/-- 'laws.FnExactReachedFrom': WHATEVER THE INPUT: true; the input reads as it did. -/
def fnExactReachedFromSpec : ChangeSpec := { name := "fnExactReachedFrom", fn := fun _ => fun
  | [d] => { results := [.lit (.bool true)], args := [d] }
  | _ => none }
def fnExactReachedFromRow : OpenClaim := { program := "ytobncomimkmoeaa", sum := "56f73e37608f7ccdc954d85a5372530f545984960813487986d5151f44388f2b", func := "loop.example/g00846/laws.FnExactReachedFrom", spec := "fnExactReachedFrom", unfollowed := true, recurses := true, apart := false }
def FnExactReachedFromSaid : Prop := fnExactReachedFromRow.holds Try.pinned (OpenSpec.ofChange fnExactReachedFromSpec)

/-- ITS FALSE NEIGHBOUR: 'it returns false'. Refute it at one input. -/
def fnExactReachedFromWrong : ChangeSpec := { name := "fnExactReachedFrom", fn := fun _ => fun
  | [d] => { results := [.lit (.bool false)], args := [d] }
  | _ => none }
def FnExactReachedFromWrongFalsely : Prop := fnExactReachedFromRow.holds Try.pinned (OpenSpec.ofChange fnExactReachedFromWrong)

/-- 'laws.FnHummer': WHATEVER THE INPUT: true; the input reads as it did. -/
def fnHummerSpec : ChangeSpec := { name := "fnHummer", fn := fun _ => fun
  | [d] => { results := [.lit (.bool true)], args := [d] }
  | _ => none }
def fnHummerRow : OpenClaim := { program := "ytobncomimkmoeaa", sum := "56f73e37608f7ccdc954d85a5372530f545984960813487986d5151f44388f2b", func := "loop.example/g00846/laws.FnHummer", spec := "fnHummer", unfollowed := true, recurses := true, apart := false }
def FnHummerSaid : Prop := fnHummerRow.holds Try.pinned (OpenSpec.ofChange fnHummerSpec)

/-- ITS FALSE NEIGHBOUR: 'it returns false'. Refute it at one input. -/
def fnHummerWrong : ChangeSpec := { name := "fnHummer", fn := fun _ => fun
  | [d] => { results := [.lit (.bool false)], args := [d] }
  | _ => none }
def FnHummerWrongFalsely : Prop := fnHummerRow.holds Try.pinned (OpenSpec.ofChange fnHummerWrong)

/- THE SECOND FORM. 'bulk': how many values and letters a reading holds, each counted each time it is reached (what is shared counts as often as it is met; a slice's spare places count too). A statement '..UptoSaid' is the law's where the arguments, and the package variables that the reading takes, are together of bulk at most 1048576: NARROWER than '..Said'. Prove '..Said' where nothing that the law and all that it calls make is longer than what came in: it says more and counts as full. Else prove '..UptoSaid'. A law counts once. -/
mutual
def uptoBulk {H : Type} : DataW H → Nat
  | .lit (.string bytes) => bytes.length + 1
  | .lit _ => 1
  | .nil => 1
  | .ptr d => uptoBulk d + 1
  | .slice elems spare => uptoBulkAll elems + uptoBulkAll spare + 1
  | .agg parts => uptoBulkAll parts + 1
  | .iface _ d => uptoBulk d + 1
  | .map entries => uptoBulkEntries entries + 1
  | .held _ => 1
def uptoBulkAll {H : Type} : List (DataW H) → Nat
  | [] => 0
  | d :: r => uptoBulk d + uptoBulkAll r
def uptoBulkEntries {H : Type} : List (Lit × DataW H) → Nat
  | [] => 0
  | x :: r => uptoBulkEntry x + uptoBulkEntries r
def uptoBulkEntry {H : Type} : Lit × DataW H → Nat
  | (.string bytes, d) => bytes.length + uptoBulk d + 1
  | (_, d) => uptoBulk d + 1
 end
def uptoSmall : (H : Type) → List (DataW H) → Bool := fun _ ds => decide (uptoBulkAll ds ≤ 1048576)
def OpenSpec.upto (s : _root_.Go.ChangeSpec) : _root_.Go.OpenSpec := { _root_.Go.OpenSpec.ofChange s with cond := some uptoSmall }

/-- 'laws.FnExactEncode', WHERE WHAT IT READS IS OF BULK AT MOST 1048576: true; the input reads as it did. -/
def fnExactEncodeUptoRow : OpenClaim := { program := "ytobncomimkmoeaa", sum := "56f73e37608f7ccdc954d85a5372530f545984960813487986d5151f44388f2b", func := "loop.example/g00846/laws.FnExactEncode", spec := "fnExactEncode", unfollowed := true, recurses := true, apart := false, narrowed := true }
def FnExactEncodeUptoSaid : Prop := fnExactEncodeUptoRow.holds Try.pinned (OpenSpec.upto fnExactEncodeSpec)

/-- 'laws.FnExactIsHummer', WHERE WHAT IT READS IS OF BULK AT MOST 1048576: true; the input reads as it did. -/
def fnExactIsHummerUptoRow : OpenClaim := { program := "ytobncomimkmoeaa", sum := "56f73e37608f7ccdc954d85a5372530f545984960813487986d5151f44388f2b", func := "loop.example/g00846/laws.FnExactIsHummer", spec := "fnExactIsHummer", unfollowed := true, recurses := true, apart := false, narrowed := true }
def FnExactIsHummerUptoSaid : Prop := fnExactIsHummerUptoRow.holds Try.pinned (OpenSpec.upto fnExactIsHummerSpec)

/-- 'laws.FnExactReachedFrom', WHERE WHAT IT READS IS OF BULK AT MOST 1048576: true; the input reads as it did. -/
def fnExactReachedFromUptoRow : OpenClaim := { program := "ytobncomimkmoeaa", sum := "56f73e37608f7ccdc954d85a5372530f545984960813487986d5151f44388f2b", func := "loop.example/g00846/laws.FnExactReachedFrom", spec := "fnExactReachedFrom", unfollowed := true, recurses := true, apart := false, narrowed := true }
def FnExactReachedFromUptoSaid : Prop := fnExactReachedFromUptoRow.holds Try.pinned (OpenSpec.upto fnExactReachedFromSpec)

/-- 'laws.FnHummer', WHERE WHAT IT READS IS OF BULK AT MOST 1048576: true; the input reads as it did. -/
def fnHummerUptoRow : OpenClaim := { program := "ytobncomimkmoeaa", sum := "56f73e37608f7ccdc954d85a5372530f545984960813487986d5151f44388f2b", func := "loop.example/g00846/laws.FnHummer", spec := "fnHummer", unfollowed := true, recurses := true, apart := false, narrowed := true }
def FnHummerUptoSaid : Prop := fnHummerUptoRow.holds Try.pinned (OpenSpec.upto fnHummerSpec)

end Rows
end Go.Proofs.Ytobncomimkmoeaa
