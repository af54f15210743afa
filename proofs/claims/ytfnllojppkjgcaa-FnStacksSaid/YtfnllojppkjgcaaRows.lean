/-
  No cell of these rows narrows 'for every input' (looked for: loops, veiled, ifaces, maps, wideKeys, modest, calm, conditions, laid).
  DERIVED. THE GIVEN ROWS OF THIS SEAT. 9 by the template 'for every input the law returns true; each argument reads behind the call as it read before'; 0 by the template 'total and deterministic' (their statements: YtfnllojppkjgcaaTotals.lean).
  GIVEN WITH THE SEED: the statements are not yours to turn. If you find one false, say at which input.
  Laid BY PROGRAM, IN A SANDBOX (cutbox-rows.mjs): the forced cells as the released guide's own fill.sh prints them over the translation 945b99616f660a05… (all of the seat's roots in one cut). By AI agents, Wed Nov 11 2026. No macro, syntax, notation, axiom, sorry.
-/
import Derived.Test.YtfnllojppkjgcaaChecked
import GoSem.Claim
import GoSem.ClaimJoined
import GoSem.ClaimMapViews
import Derived.JoinedTies
import Derived.KernelRfl
namespace Go.Proofs.Ytfnllojppkjgcaa
/- THE CELL 'sum', in the pinned program and in every row, IS THE sha256 OF THE DUMP (.gsa) THAT YtfnllojppkjgcaaProg.lean LOADS. Nothing in Lean hashes anything: it is a label: what it is worth is what the hold of that sum in a sandbox is worth. -/
noncomputable def Try.pinned : Pinned := { name := "ytfnllojppkjgcaa", sum := "945b99616f660a05bf893a2b934b54d4da256ab362b6a96b5123fa2590ac9310", checked := Try.checked }
namespace Rows
def none {H : Type} : Left H := { results := [], args := [] }

/-- 'laws.FnExactCodeOk': WHATEVER THE INPUT: true; the input reads as it did. -/
def fnExactCodeOkSpec : ChangeSpec := { name := "fnExactCodeOk", fn := fun _ => fun
  | [d] => { results := [.lit (.bool true)], args := [d] }
  | _ => none }
def fnExactCodeOkRow : OpenClaim := { program := "ytfnllojppkjgcaa", sum := "945b99616f660a05bf893a2b934b54d4da256ab362b6a96b5123fa2590ac9310", func := "loop.example/g00846/laws.FnExactCodeOk", spec := "fnExactCodeOk", unfollowed := true, recurses := true, apart := false }
def FnExactCodeOkSaid : Prop := fnExactCodeOkRow.holds Try.pinned (OpenSpec.ofChange fnExactCodeOkSpec)

/-- ITS FALSE NEIGHBOUR: 'it returns false'. Refute it at one input. -/
def fnExactCodeOkWrong : ChangeSpec := { name := "fnExactCodeOk", fn := fun _ => fun
  | [d] => { results := [.lit (.bool false)], args := [d] }
  | _ => none }
def FnExactCodeOkWrongFalsely : Prop := fnExactCodeOkRow.holds Try.pinned (OpenSpec.ofChange fnExactCodeOkWrong)

/-- 'laws.FnExactDecode': WHATEVER THE INPUT: true; the input reads as it did. -/
def fnExactDecodeSpec : ChangeSpec := { name := "fnExactDecode", fn := fun _ => fun
  | [d1, d2] => { results := [.lit (.bool true)], args := [d1, d2] }
  | _ => none }
def fnExactDecodeRow : OpenClaim := { program := "ytfnllojppkjgcaa", sum := "945b99616f660a05bf893a2b934b54d4da256ab362b6a96b5123fa2590ac9310", func := "loop.example/g00846/laws.FnExactDecode", spec := "fnExactDecode", unfollowed := true, recurses := true, apart := false }
def FnExactDecodeSaid : Prop := fnExactDecodeRow.holds Try.pinned (OpenSpec.ofChange fnExactDecodeSpec)

/-- ITS FALSE NEIGHBOUR: 'it returns false'. Refute it at one input. -/
def fnExactDecodeWrong : ChangeSpec := { name := "fnExactDecode", fn := fun _ => fun
  | [d1, d2] => { results := [.lit (.bool false)], args := [d1, d2] }
  | _ => none }
def FnExactDecodeWrongFalsely : Prop := fnExactDecodeRow.holds Try.pinned (OpenSpec.ofChange fnExactDecodeWrong)

/-- 'laws.FnExactEncode': WHATEVER THE INPUT: true; the input reads as it did. -/
def fnExactEncodeSpec : ChangeSpec := { name := "fnExactEncode", fn := fun _ => fun
  | [d1, d2] => { results := [.lit (.bool true)], args := [d1, d2] }
  | _ => none }
def fnExactEncodeRow : OpenClaim := { program := "ytfnllojppkjgcaa", sum := "945b99616f660a05bf893a2b934b54d4da256ab362b6a96b5123fa2590ac9310", func := "loop.example/g00846/laws.FnExactEncode", spec := "fnExactEncode", unfollowed := true, recurses := true, apart := false }
def FnExactEncodeSaid : Prop := fnExactEncodeRow.holds Try.pinned (OpenSpec.ofChange fnExactEncodeSpec)

/-- ITS FALSE NEIGHBOUR: 'it returns false'. Refute it at one input. -/
def fnExactEncodeWrong : ChangeSpec := { name := "fnExactEncode", fn := fun _ => fun
  | [d1, d2] => { results := [.lit (.bool false)], args := [d1, d2] }
  | _ => none }
def FnExactEncodeWrongFalsely : Prop := fnExactEncodeRow.holds Try.pinned (OpenSpec.ofChange fnExactEncodeWrong)

/-- 'laws.FnStacks': WHATEVER THE INPUT: true; the input reads as it did. -/
def fnStacksSpec : ChangeSpec := { name := "fnStacks", fn := fun _ => fun
  | [d] => { results := [.lit (.bool true)], args := [d] }
  | _ => none }
def fnStacksRow : OpenClaim := { program := "ytfnllojppkjgcaa", sum := "945b99616f660a05bf893a2b934b54d4da256ab362b6a96b5123fa2590ac9310", func := "loop.example/g00846/laws.FnStacks", spec := "fnStacks", unfollowed := true, recurses := true, apart := false }
def FnStacksSaid : Prop := fnStacksRow.holds Try.pinned (OpenSpec.ofChange fnStacksSpec)

/-- ITS FALSE NEIGHBOUR: 'it returns false'. Refute it at one input. -/
def fnStacksWrong : ChangeSpec := { name := "fnStacks", fn := fun _ => fun
  | [d] => { results := [.lit (.bool false)], args := [d] }
  | _ => none }
def FnStacksWrongFalsely : Prop := fnStacksRow.holds Try.pinned (OpenSpec.ofChange fnStacksWrong)

/-- 'laws.FnRegisters': WHATEVER THE INPUT: true; the input reads as it did. -/
def fnRegistersSpec : ChangeSpec := { name := "fnRegisters", fn := fun _ => fun
  | [d] => { results := [.lit (.bool true)], args := [d] }
  | _ => none }
def fnRegistersRow : OpenClaim := { program := "ytfnllojppkjgcaa", sum := "945b99616f660a05bf893a2b934b54d4da256ab362b6a96b5123fa2590ac9310", func := "loop.example/g00846/laws.FnRegisters", spec := "fnRegisters", unfollowed := true, recurses := true, apart := false }
def FnRegistersSaid : Prop := fnRegistersRow.holds Try.pinned (OpenSpec.ofChange fnRegistersSpec)

/-- ITS FALSE NEIGHBOUR: 'it returns false'. Refute it at one input. -/
def fnRegistersWrong : ChangeSpec := { name := "fnRegisters", fn := fun _ => fun
  | [d] => { results := [.lit (.bool false)], args := [d] }
  | _ => none }
def FnRegistersWrongFalsely : Prop := fnRegistersRow.holds Try.pinned (OpenSpec.ofChange fnRegistersWrong)

/-- 'laws.FnExactDeBruijn': WHATEVER THE INPUT: true; the input reads as it did. -/
def fnExactDeBruijnSpec : ChangeSpec := { name := "fnExactDeBruijn", fn := fun _ => fun
  | [d] => { results := [.lit (.bool true)], args := [d] }
  | _ => none }
def fnExactDeBruijnRow : OpenClaim := { program := "ytfnllojppkjgcaa", sum := "945b99616f660a05bf893a2b934b54d4da256ab362b6a96b5123fa2590ac9310", func := "loop.example/g00846/laws.FnExactDeBruijn", spec := "fnExactDeBruijn", apart := false }
def FnExactDeBruijnSaid : Prop := fnExactDeBruijnRow.holds Try.pinned (OpenSpec.ofChange fnExactDeBruijnSpec)

/-- ITS FALSE NEIGHBOUR: 'it returns false'. Refute it at one input. -/
def fnExactDeBruijnWrong : ChangeSpec := { name := "fnExactDeBruijn", fn := fun _ => fun
  | [d] => { results := [.lit (.bool false)], args := [d] }
  | _ => none }
def FnExactDeBruijnWrongFalsely : Prop := fnExactDeBruijnRow.holds Try.pinned (OpenSpec.ofChange fnExactDeBruijnWrong)

/-- 'laws.FnExactIsHummer': WHATEVER THE INPUT: true; the input reads as it did. -/
def fnExactIsHummerSpec : ChangeSpec := { name := "fnExactIsHummer", fn := fun _ => fun
  | [d1, d2] => { results := [.lit (.bool true)], args := [d1, d2] }
  | _ => none }
def fnExactIsHummerRow : OpenClaim := { program := "ytfnllojppkjgcaa", sum := "945b99616f660a05bf893a2b934b54d4da256ab362b6a96b5123fa2590ac9310", func := "loop.example/g00846/laws.FnExactIsHummer", spec := "fnExactIsHummer", unfollowed := true, recurses := true, apart := false }
def FnExactIsHummerSaid : Prop := fnExactIsHummerRow.holds Try.pinned (OpenSpec.ofChange fnExactIsHummerSpec)

/-- ITS FALSE NEIGHBOUR: 'it returns false'. Refute it at one input. -/
def fnExactIsHummerWrong : ChangeSpec := { name := "fnExactIsHummer", fn := fun _ => fun
  | [d1, d2] => { results := [.lit (.bool false)], args := [d1, d2] }
  | _ => none }
def FnExactIsHummerWrongFalsely : Prop := fnExactIsHummerRow.holds Try.pinned (OpenSpec.ofChange fnExactIsHummerWrong)

/-- 'laws.FnExactReachedFrom': WHATEVER THE INPUT: true; the input reads as it did. -/
def fnExactReachedFromSpec : ChangeSpec := { name := "fnExactReachedFrom", fn := fun _ => fun
  | [d] => { results := [.lit (.bool true)], args := [d] }
  | _ => none }
def fnExactReachedFromRow : OpenClaim := { program := "ytfnllojppkjgcaa", sum := "945b99616f660a05bf893a2b934b54d4da256ab362b6a96b5123fa2590ac9310", func := "loop.example/g00846/laws.FnExactReachedFrom", spec := "fnExactReachedFrom", unfollowed := true, recurses := true, apart := false }
def FnExactReachedFromSaid : Prop := fnExactReachedFromRow.holds Try.pinned (OpenSpec.ofChange fnExactReachedFromSpec)

/-- ITS FALSE NEIGHBOUR: 'it returns false'. Refute it at one input. -/
def fnExactReachedFromWrong : ChangeSpec := { name := "fnExactReachedFrom", fn := fun _ => fun
  | [d] => { results := [.lit (.bool false)], args := [d] }
  | _ => none }
def FnExactReachedFromWrongFalsely : Prop := fnExactReachedFromRow.holds Try.pinned (OpenSpec.ofChange fnExactReachedFromWrong)

/-- 'laws.FnHummer': WHATEVER THE INPUT: true; the input reads as it did. -/
def fnHummerSpec : ChangeSpec := { name := "fnHummer", fn := fun _ => fun
  | [d] => { results := [.lit (.bool true)], args := [d] }
  | _ => none }
def fnHummerRow : OpenClaim := { program := "ytfnllojppkjgcaa", sum := "945b99616f660a05bf893a2b934b54d4da256ab362b6a96b5123fa2590ac9310", func := "loop.example/g00846/laws.FnHummer", spec := "fnHummer", unfollowed := true, recurses := true, apart := false }
def FnHummerSaid : Prop := fnHummerRow.holds Try.pinned (OpenSpec.ofChange fnHummerSpec)

/-- ITS FALSE NEIGHBOUR: 'it returns false'. Refute it at one input. -/
def fnHummerWrong : ChangeSpec := { name := "fnHummer", fn := fun _ => fun
  | [d] => { results := [.lit (.bool false)], args := [d] }
  | _ => none }
def FnHummerWrongFalsely : Prop := fnHummerRow.holds Try.pinned (OpenSpec.ofChange fnHummerWrong)

/- THE SECOND FORM. 'bulk': how many values and letters a reading holds, each counted each time it is reached (what is shared counts as often as it is met; a slice's spare places count too). A statement '..UptoSaid' is the law's where the arguments, and the package variables that the reading takes, are together of bulk at most 1048576: NARROWER than '..Said'. Prove '..Said' where nothing that the law and all that it calls make is longer than what came in: it says more and counts as full. Else prove '..UptoSaid'. A law counts once. -/
mutual
def uptoBulk {H : Type} : DataW H → Nat
  | .lit (.string bytes) => bytes.length + 1
  | .lit _ => 1
  | .nil => 1
  | .ptr d => uptoBulk d + 1
  | .slice elems spare => uptoBulkAll elems + uptoBulkAll spare + 1
  | .agg parts => uptoBulkAll parts + 1
  | .iface _ d => uptoBulk d + 1
  | .map entries => uptoBulkEntries entries + 1
  | .held _ => 1
def uptoBulkAll {H : Type} : List (DataW H) → Nat
  | [] => 0
  | d :: r => uptoBulk d + uptoBulkAll r
def uptoBulkEntries {H : Type} : List (Lit × DataW H) → Nat
  | [] => 0
  | x :: r => uptoBulkEntry x + uptoBulkEntries r
def uptoBulkEntry {H : Type} : Lit × DataW H → Nat
  | (.string bytes, d) => bytes.length + uptoBulk d + 1
  | (_, d) => uptoBulk d + 1
 end
def uptoSmall : (H : Type) → List (DataW H) → Bool := fun _ ds => decide (uptoBulkAll ds ≤ 1048576)
def OpenSpec.upto (s : _root_.Go.ChangeSpec) : _root_.Go.OpenSpec := { _root_.Go.OpenSpec.ofChange s with cond := some uptoSmall }

/-- 'laws.FnExactCodeOk', WHERE WHAT IT READS IS OF BULK AT MOST 1048576: true; the input reads as it did. -/
def fnExactCodeOkUptoRow : OpenClaim := { program := "ytfnllojppkjgcaa", sum := "945b99616f660a05bf893a2b934b54d4da256ab362b6a96b5123fa2590ac9310", func := "loop.example/g00846/laws.FnExactCodeOk", spec := "fnExactCodeOk", unfollowed := true, recurses := true, apart := false, narrowed := true }
def FnExactCodeOkUptoSaid : Prop := fnExactCodeOkUptoRow.holds Try.pinned (OpenSpec.upto fnExactCodeOkSpec)

/-- 'laws.FnExactDecode', WHERE WHAT IT READS IS OF BULK AT MOST 1048576: true; the input reads as it did. -/
def fnExactDecodeUptoRow : OpenClaim := { program := "ytfnllojppkjgcaa", sum := "945b99616f660a05bf893a2b934b54d4da256ab362b6a96b5123fa2590ac9310", func := "loop.example/g00846/laws.FnExactDecode", spec := "fnExactDecode", unfollowed := true, recurses := true, apart := false, narrowed := true }
def FnExactDecodeUptoSaid : Prop := fnExactDecodeUptoRow.holds Try.pinned (OpenSpec.upto fnExactDecodeSpec)

/-- 'laws.FnExactEncode', WHERE WHAT IT READS IS OF BULK AT MOST 1048576: true; the input reads as it did. -/
def fnExactEncodeUptoRow : OpenClaim := { program := "ytfnllojppkjgcaa", sum := "945b99616f660a05bf893a2b934b54d4da256ab362b6a96b5123fa2590ac9310", func := "loop.example/g00846/laws.FnExactEncode", spec := "fnExactEncode", unfollowed := true, recurses := true, apart := false, narrowed := true }
def FnExactEncodeUptoSaid : Prop := fnExactEncodeUptoRow.holds Try.pinned (OpenSpec.upto fnExactEncodeSpec)

/-- 'laws.FnStacks', WHERE WHAT IT READS IS OF BULK AT MOST 1048576: true; the input reads as it did. -/
def fnStacksUptoRow : OpenClaim := { program := "ytfnllojppkjgcaa", sum := "945b99616f660a05bf893a2b934b54d4da256ab362b6a96b5123fa2590ac9310", func := "loop.example/g00846/laws.FnStacks", spec := "fnStacks", unfollowed := true, recurses := true, apart := false, narrowed := true }
def FnStacksUptoSaid : Prop := fnStacksUptoRow.holds Try.pinned (OpenSpec.upto fnStacksSpec)

/-- 'laws.FnRegisters', WHERE WHAT IT READS IS OF BULK AT MOST 1048576: true; the input reads as it did. -/
def fnRegistersUptoRow : OpenClaim := { program := "ytfnllojppkjgcaa", sum := "945b99616f660a05bf893a2b934b54d4da256ab362b6a96b5123fa2590ac9310", func := "loop.example/g00846/laws.FnRegisters", spec := "fnRegisters", unfollowed := true, recurses := true, apart := false, narrowed := true }
def FnRegistersUptoSaid : Prop := fnRegistersUptoRow.holds Try.pinned (OpenSpec.upto fnRegistersSpec)

/-- 'laws.FnExactDeBruijn', WHERE WHAT IT READS IS OF BULK AT MOST 1048576: true; the input reads as it did. -/
def fnExactDeBruijnUptoRow : OpenClaim := { program := "ytfnllojppkjgcaa", sum := "945b99616f660a05bf893a2b934b54d4da256ab362b6a96b5123fa2590ac9310", func := "loop.example/g00846/laws.FnExactDeBruijn", spec := "fnExactDeBruijn", apart := false, narrowed := true }
def FnExactDeBruijnUptoSaid : Prop := fnExactDeBruijnUptoRow.holds Try.pinned (OpenSpec.upto fnExactDeBruijnSpec)

/-- 'laws.FnExactIsHummer', WHERE WHAT IT READS IS OF BULK AT MOST 1048576: true; the input reads as it did. -/
def fnExactIsHummerUptoRow : OpenClaim := { program := "ytfnllojppkjgcaa", sum := "945b99616f660a05bf893a2b934b54d4da256ab362b6a96b5123fa2590ac9310", func := "loop.example/g00846/laws.FnExactIsHummer", spec := "fnExactIsHummer", unfollowed := true, recurses := true, apart := false, narrowed := true }
def FnExactIsHummerUptoSaid : Prop := fnExactIsHummerUptoRow.holds Try.pinned (OpenSpec.upto fnExactIsHummerSpec)

/-- 'laws.FnExactReachedFrom', WHERE WHAT IT READS IS OF BULK AT MOST 1048576: true; the input reads as it did. -/
def fnExactReachedFromUptoRow : OpenClaim := { program := "ytfnllojppkjgcaa", sum := "945b99616f660a05bf893a2b934b54d4da256ab362b6a96b5123fa2590ac9310", func := "loop.example/g00846/laws.FnExactReachedFrom", spec := "fnExactReachedFrom", unfollowed := true, recurses := true, apart := false, narrowed := true }
def FnExactReachedFromUptoSaid : Prop := fnExactReachedFromUptoRow.holds Try.pinned (OpenSpec.upto fnExactReachedFromSpec)

/-- 'laws.FnHummer', WHERE WHAT IT READS IS OF BULK AT MOST 1048576: true; the input reads as it did. -/
def fnHummerUptoRow : OpenClaim := { program := "ytfnllojppkjgcaa", sum := "945b99616f660a05bf893a2b934b54d4da256ab362b6a96b5123fa2590ac9310", func := "loop.example/g00846/laws.FnHummer", spec := "fnHummer", unfollowed := true, recurses := true, apart := false, narrowed := true }
def FnHummerUptoSaid : Prop := fnHummerUptoRow.holds Try.pinned (OpenSpec.upto fnHummerSpec)

end Rows
end Go.Proofs.Ytfnllojppkjgcaa
