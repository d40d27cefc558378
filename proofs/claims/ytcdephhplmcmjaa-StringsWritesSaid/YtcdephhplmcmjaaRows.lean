/-
  No cell of these rows narrows 'for every input' (looked for: loops, veiled, ifaces, maps, wideKeys, modest, calm, conditions, laid).
  DERIVED. THE GIVEN ROWS OF THIS SEAT. 7 by the template 'for every input the law returns true; each argument reads behind the call as it read before'; 0 by the template 'total and deterministic' (their statements: YtcdephhplmcmjaaTotals.lean).
  GIVEN WITH THE SEED: the statements are not yours to turn. If you find one false, say at which input.
  Laid BY PROGRAM, IN A SANDBOX (cutbox-rows.mjs): the forced cells as the released guide's own fill.sh prints them over the translation 78cb0973654fd978… (all of the seat's roots in one cut). By AI agents, Wed Nov 11 2026. No macro, syntax, notation, axiom, sorry.
-/
import Derived.Test.YtcdephhplmcmjaaChecked
import GoSem.Claim
import GoSem.ClaimJoined
import GoSem.ClaimMapViews
import Derived.JoinedTies
import Derived.KernelRfl
namespace Go.Proofs.Ytcdephhplmcmjaa
/- THE CELL 'sum', in the pinned program and in every row, IS THE sha256 OF THE DUMP (.gsa) THAT YtcdephhplmcmjaaProg.lean LOADS. Nothing in Lean hashes anything: it is a label: what it is worth is what the hold of that sum in a sandbox is worth. -/
noncomputable def Try.pinned : Pinned := { name := "ytcdephhplmcmjaa", sum := "78cb0973654fd9787ccdb37ca832e0662c38699d396259bdd5ff1f76b21b6697", checked := Try.checked }
namespace Rows
def none {H : Type} : Left H := { results := [], args := [] }

/-- 'marquetrylaw14.StringsWrites': WHATEVER THE INPUT: true; the input reads as it did. -/
def stringsWritesSpec : ChangeSpec := { name := "stringsWrites", fn := fun _ => fun
  | [d] => { results := [.lit (.bool true)], args := [d] }
  | _ => none }
def stringsWritesRow : OpenClaim := { program := "ytcdephhplmcmjaa", sum := "78cb0973654fd9787ccdb37ca832e0662c38699d396259bdd5ff1f76b21b6697", func := "marquetry/marquetrylaw14.StringsWrites", spec := "stringsWrites", inPlace := ["math/bits.Sub64", "math/bits.Add64"], unfollowed := true, recurses := true, apart := false }
def StringsWritesSaid : Prop := stringsWritesRow.holds Try.pinned (OpenSpec.ofChange stringsWritesSpec)

/-- ITS FALSE NEIGHBOUR: 'it returns false'. Refute it at one input. -/
def stringsWritesWrong : ChangeSpec := { name := "stringsWrites", fn := fun _ => fun
  | [d] => { results := [.lit (.bool false)], args := [d] }
  | _ => none }
def StringsWritesWrongFalsely : Prop := stringsWritesRow.holds Try.pinned (OpenSpec.ofChange stringsWritesWrong)

/-- 'marquetrylaw14.StringsLengths': WHATEVER THE INPUT: true; the input reads as it did. -/
def stringsLengthsSpec : ChangeSpec := { name := "stringsLengths", fn := fun _ => fun
  | [d1, d2] => { results := [.lit (.bool true)], args := [d1, d2] }
  | _ => none }
def stringsLengthsRow : OpenClaim := { program := "ytcdephhplmcmjaa", sum := "78cb0973654fd9787ccdb37ca832e0662c38699d396259bdd5ff1f76b21b6697", func := "marquetry/marquetrylaw14.StringsLengths", spec := "stringsLengths", inPlace := ["math/bits.Sub64", "math/bits.Add64"], unfollowed := true, recurses := true, apart := false }
def StringsLengthsSaid : Prop := stringsLengthsRow.holds Try.pinned (OpenSpec.ofChange stringsLengthsSpec)

/-- ITS FALSE NEIGHBOUR: 'it returns false'. Refute it at one input. -/
def stringsLengthsWrong : ChangeSpec := { name := "stringsLengths", fn := fun _ => fun
  | [d1, d2] => { results := [.lit (.bool false)], args := [d1, d2] }
  | _ => none }
def StringsLengthsWrongFalsely : Prop := stringsLengthsRow.holds Try.pinned (OpenSpec.ofChange stringsLengthsWrong)

/-- 'marquetrylaw14.StringsPrefixes': WHATEVER THE INPUT: true; the input reads as it did. -/
def stringsPrefixesSpec : ChangeSpec := { name := "stringsPrefixes", fn := fun _ => fun
  | [d1, d2] => { results := [.lit (.bool true)], args := [d1, d2] }
  | _ => none }
def stringsPrefixesRow : OpenClaim := { program := "ytcdephhplmcmjaa", sum := "78cb0973654fd9787ccdb37ca832e0662c38699d396259bdd5ff1f76b21b6697", func := "marquetry/marquetrylaw14.StringsPrefixes", spec := "stringsPrefixes", inPlace := ["math/bits.Sub64", "math/bits.Add64"], unfollowed := true, recurses := true, apart := false }
def StringsPrefixesSaid : Prop := stringsPrefixesRow.holds Try.pinned (OpenSpec.ofChange stringsPrefixesSpec)

/-- ITS FALSE NEIGHBOUR: 'it returns false'. Refute it at one input. -/
def stringsPrefixesWrong : ChangeSpec := { name := "stringsPrefixes", fn := fun _ => fun
  | [d1, d2] => { results := [.lit (.bool false)], args := [d1, d2] }
  | _ => none }
def StringsPrefixesWrongFalsely : Prop := stringsPrefixesRow.holds Try.pinned (OpenSpec.ofChange stringsPrefixesWrong)

/-- 'marquetrylaw14.StringsCommon': WHATEVER THE INPUT: true; the input reads as it did. -/
def stringsCommonSpec : ChangeSpec := { name := "stringsCommon", fn := fun _ => fun
  | [d1, d2] => { results := [.lit (.bool true)], args := [d1, d2] }
  | _ => none }
def stringsCommonRow : OpenClaim := { program := "ytcdephhplmcmjaa", sum := "78cb0973654fd9787ccdb37ca832e0662c38699d396259bdd5ff1f76b21b6697", func := "marquetry/marquetrylaw14.StringsCommon", spec := "stringsCommon", inPlace := ["math/bits.Sub64", "math/bits.Add64"], unfollowed := true, recurses := true, apart := false }
def StringsCommonSaid : Prop := stringsCommonRow.holds Try.pinned (OpenSpec.ofChange stringsCommonSpec)

/-- ITS FALSE NEIGHBOUR: 'it returns false'. Refute it at one input. -/
def stringsCommonWrong : ChangeSpec := { name := "stringsCommon", fn := fun _ => fun
  | [d1, d2] => { results := [.lit (.bool false)], args := [d1, d2] }
  | _ => none }
def StringsCommonWrongFalsely : Prop := stringsCommonRow.holds Try.pinned (OpenSpec.ofChange stringsCommonWrong)

/-- 'marquetrylaw14.StringsBounds': WHATEVER THE INPUT: true; the input reads as it did. -/
def stringsBoundsSpec : ChangeSpec := { name := "stringsBounds", fn := fun _ => fun
  | [] => { results := [.lit (.bool true)], args := [] }
  | _ => none }
def stringsBoundsRow : OpenClaim := { program := "ytcdephhplmcmjaa", sum := "78cb0973654fd9787ccdb37ca832e0662c38699d396259bdd5ff1f76b21b6697", func := "marquetry/marquetrylaw14.StringsBounds", spec := "stringsBounds", inPlace := ["math/bits.Sub64", "math/bits.Add64"], unfollowed := true, recurses := true, apart := false }
def StringsBoundsSaid : Prop := stringsBoundsRow.holds Try.pinned (OpenSpec.ofChange stringsBoundsSpec)

/-- ITS FALSE NEIGHBOUR: 'it returns false'. Refute it at one input. -/
def stringsBoundsWrong : ChangeSpec := { name := "stringsBounds", fn := fun _ => fun
  | [] => { results := [.lit (.bool false)], args := [] }
  | _ => none }
def StringsBoundsWrongFalsely : Prop := stringsBoundsRow.holds Try.pinned (OpenSpec.ofChange stringsBoundsWrong)

/-- 'marquetrylaw14.StringsBack': WHATEVER THE INPUT: true; the input reads as it did. -/
def stringsBackSpec : ChangeSpec := { name := "stringsBack", fn := fun _ => fun
  | [d1, d2] => { results := [.lit (.bool true)], args := [d1, d2] }
  | _ => none }
def stringsBackRow : OpenClaim := { program := "ytcdephhplmcmjaa", sum := "78cb0973654fd9787ccdb37ca832e0662c38699d396259bdd5ff1f76b21b6697", func := "marquetry/marquetrylaw14.StringsBack", spec := "stringsBack", inPlace := ["math/bits.Sub64", "math/bits.Add64"], unfollowed := true, recurses := true, apart := false }
def StringsBackSaid : Prop := stringsBackRow.holds Try.pinned (OpenSpec.ofChange stringsBackSpec)

/-- ITS FALSE NEIGHBOUR: 'it returns false'. Refute it at one input. -/
def stringsBackWrong : ChangeSpec := { name := "stringsBack", fn := fun _ => fun
  | [d1, d2] => { results := [.lit (.bool false)], args := [d1, d2] }
  | _ => none }
def StringsBackWrongFalsely : Prop := stringsBackRow.holds Try.pinned (OpenSpec.ofChange stringsBackWrong)

/-- 'marquetrylaw14.StringsAgain': WHATEVER THE INPUT: true; the input reads as it did. -/
def stringsAgainSpec : ChangeSpec := { name := "stringsAgain", fn := fun _ => fun
  | [d1, d2] => { results := [.lit (.bool true)], args := [d1, d2] }
  | _ => none }
def stringsAgainRow : OpenClaim := { program := "ytcdephhplmcmjaa", sum := "78cb0973654fd9787ccdb37ca832e0662c38699d396259bdd5ff1f76b21b6697", func := "marquetry/marquetrylaw14.StringsAgain", spec := "stringsAgain", inPlace := ["math/bits.Sub64", "math/bits.Add64"], unfollowed := true, recurses := true, apart := false }
def StringsAgainSaid : Prop := stringsAgainRow.holds Try.pinned (OpenSpec.ofChange stringsAgainSpec)

/-- ITS FALSE NEIGHBOUR: 'it returns false'. Refute it at one input. -/
def stringsAgainWrong : ChangeSpec := { name := "stringsAgain", fn := fun _ => fun
  | [d1, d2] => { results := [.lit (.bool false)], args := [d1, d2] }
  | _ => none }
def StringsAgainWrongFalsely : Prop := stringsAgainRow.holds Try.pinned (OpenSpec.ofChange stringsAgainWrong)

/- THE SECOND FORM. 'bulk': how many values and letters a reading holds, each counted each time it is reached (what is shared counts as often as it is met; a slice's spare places count too). A statement '..UptoSaid' is the law's where the arguments, and the package variables that the reading takes, are together of bulk at most 1048576: NARROWER than '..Said'. Prove '..Said' where nothing that the law and all that it calls make is longer than what came in: it says more and counts as full. Else prove '..UptoSaid'. A law counts once. -/
mutual
def uptoBulk {H : Type} : DataW H → Nat
  | .lit (.string bytes) => bytes.length + 1
  | .lit _ => 1
  | .nil => 1
  | .ptr d => uptoBulk d + 1
  | .slice elems spare => uptoBulkAll elems + uptoBulkAll spare + 1
  | .agg parts => uptoBulkAll parts + 1
  | .iface _ d => uptoBulk d + 1
  | .map entries => uptoBulkEntries entries + 1
  | .held _ => 1
def uptoBulkAll {H : Type} : List (DataW H) → Nat
  | [] => 0
  | d :: r => uptoBulk d + uptoBulkAll r
def uptoBulkEntries {H : Type} : List (Lit × DataW H) → Nat
  | [] => 0
  | x :: r => uptoBulkEntry x + uptoBulkEntries r
def uptoBulkEntry {H : Type} : Lit × DataW H → Nat
  | (.string bytes, d) => bytes.length + uptoBulk d + 1
  | (_, d) => uptoBulk d + 1
 end
def uptoSmall : (H : Type) → List (DataW H) → Bool := fun _ ds => decide (uptoBulkAll ds ≤ 1048576)
def OpenSpec.upto (s : _root_.Go.ChangeSpec) : _root_.Go.OpenSpec := { _root_.Go.OpenSpec.ofChange s with cond := some uptoSmall }

/-- 'marquetrylaw14.StringsWrites', WHERE WHAT IT READS IS OF BULK AT MOST 1048576: true; the input reads as it did. -/
def stringsWritesUptoRow : OpenClaim := { program := "ytcdephhplmcmjaa", sum := "78cb0973654fd9787ccdb37ca832e0662c38699d396259bdd5ff1f76b21b6697", func := "marquetry/marquetrylaw14.StringsWrites", spec := "stringsWrites", inPlace := ["math/bits.Sub64", "math/bits.Add64"], unfollowed := true, recurses := true, apart := false, narrowed := true }
def StringsWritesUptoSaid : Prop := stringsWritesUptoRow.holds Try.pinned (OpenSpec.upto stringsWritesSpec)

/-- 'marquetrylaw14.StringsLengths', WHERE WHAT IT READS IS OF BULK AT MOST 1048576: true; the input reads as it did. -/
def stringsLengthsUptoRow : OpenClaim := { program := "ytcdephhplmcmjaa", sum := "78cb0973654fd9787ccdb37ca832e0662c38699d396259bdd5ff1f76b21b6697", func := "marquetry/marquetrylaw14.StringsLengths", spec := "stringsLengths", inPlace := ["math/bits.Sub64", "math/bits.Add64"], unfollowed := true, recurses := true, apart := false, narrowed := true }
def StringsLengthsUptoSaid : Prop := stringsLengthsUptoRow.holds Try.pinned (OpenSpec.upto stringsLengthsSpec)

/-- 'marquetrylaw14.StringsPrefixes', WHERE WHAT IT READS IS OF BULK AT MOST 1048576: true; the input reads as it did. -/
def stringsPrefixesUptoRow : OpenClaim := { program := "ytcdephhplmcmjaa", sum := "78cb0973654fd9787ccdb37ca832e0662c38699d396259bdd5ff1f76b21b6697", func := "marquetry/marquetrylaw14.StringsPrefixes", spec := "stringsPrefixes", inPlace := ["math/bits.Sub64", "math/bits.Add64"], unfollowed := true, recurses := true, apart := false, narrowed := true }
def StringsPrefixesUptoSaid : Prop := stringsPrefixesUptoRow.holds Try.pinned (OpenSpec.upto stringsPrefixesSpec)

/-- 'marquetrylaw14.StringsCommon', WHERE WHAT IT READS IS OF BULK AT MOST 1048576: true; the input reads as it did. -/
def stringsCommonUptoRow : OpenClaim := { program := "ytcdephhplmcmjaa", sum := "78cb0973654fd9787ccdb37ca832e0662c38699d396259bdd5ff1f76b21b6697", func := "marquetry/marquetrylaw14.StringsCommon", spec := "stringsCommon", inPlace := ["math/bits.Sub64", "math/bits.Add64"], unfollowed := true, recurses := true, apart := false, narrowed := true }
def StringsCommonUptoSaid : Prop := stringsCommonUptoRow.holds Try.pinned (OpenSpec.upto stringsCommonSpec)

/-- 'marquetrylaw14.StringsBounds', WHERE WHAT IT READS IS OF BULK AT MOST 1048576: true; the input reads as it did. -/
def stringsBoundsUptoRow : OpenClaim := { program := "ytcdephhplmcmjaa", sum := "78cb0973654fd9787ccdb37ca832e0662c38699d396259bdd5ff1f76b21b6697", func := "marquetry/marquetrylaw14.StringsBounds", spec := "stringsBounds", inPlace := ["math/bits.Sub64", "math/bits.Add64"], unfollowed := true, recurses := true, apart := false, narrowed := true }
def StringsBoundsUptoSaid : Prop := stringsBoundsUptoRow.holds Try.pinned (OpenSpec.upto stringsBoundsSpec)

/-- 'marquetrylaw14.StringsBack', WHERE WHAT IT READS IS OF BULK AT MOST 1048576: true; the input reads as it did. -/
def stringsBackUptoRow : OpenClaim := { program := "ytcdephhplmcmjaa", sum := "78cb0973654fd9787ccdb37ca832e0662c38699d396259bdd5ff1f76b21b6697", func := "marquetry/marquetrylaw14.StringsBack", spec := "stringsBack", inPlace := ["math/bits.Sub64", "math/bits.Add64"], unfollowed := true, recurses := true, apart := false, narrowed := true }
def StringsBackUptoSaid : Prop := stringsBackUptoRow.holds Try.pinned (OpenSpec.upto stringsBackSpec)

/-- 'marquetrylaw14.StringsAgain', WHERE WHAT IT READS IS OF BULK AT MOST 1048576: true; the input reads as it did. -/
def stringsAgainUptoRow : OpenClaim := { program := "ytcdephhplmcmjaa", sum := "78cb0973654fd9787ccdb37ca832e0662c38699d396259bdd5ff1f76b21b6697", func := "marquetry/marquetrylaw14.StringsAgain", spec := "stringsAgain", inPlace := ["math/bits.Sub64", "math/bits.Add64"], unfollowed := true, recurses := true, apart := false, narrowed := true }
def StringsAgainUptoSaid : Prop := stringsAgainUptoRow.holds Try.pinned (OpenSpec.upto stringsAgainSpec)

end Rows
end Go.Proofs.Ytcdephhplmcmjaa
