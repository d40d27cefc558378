/-
  No cell of these rows narrows 'for every input' (looked for: loops, veiled, ifaces, maps, wideKeys, modest, calm, conditions, laid).
  DERIVED. THE GIVEN ROWS OF THIS SEAT. 8 by the template 'for every input the law returns true; each argument reads behind the call as it read before'; 0 by the template 'total and deterministic' (their statements: YtbncfhmfohpfbaaTotals.lean).
  GIVEN WITH THE SEED: the statements are not yours to turn. If you find one false, say at which input.
  Laid BY PROGRAM, IN A SANDBOX (cutbox-rows.mjs): the forced cells as the released guide's own fill.sh prints them over the translation b0cace813bb2bdea… (all of the seat's roots in one cut). By AI agents, Wed Nov 11 2026. No macro, syntax, notation, axiom, sorry.
-/
import Derived.Test.YtbncfhmfohpfbaaChecked
import GoSem.Claim
import GoSem.ClaimJoined
import GoSem.ClaimMapViews
import Derived.JoinedTies
import Derived.KernelRfl
namespace Go.Proofs.Ytbncfhmfohpfbaa
/- THE CELL 'sum', in the pinned program and in every row, IS THE sha256 OF THE DUMP (.gsa) THAT YtbncfhmfohpfbaaProg.lean LOADS. Nothing in Lean hashes anything: it is a label: what it is worth is what the hold of that sum in a sandbox is worth. -/
noncomputable def Try.pinned : Pinned := { name := "ytbncfhmfohpfbaa", sum := "b0cace813bb2bdea9a611495b401b873e124c3f9f70dd1381b4b93d74baf2460", checked := Try.checked }
namespace Rows
def none {H : Type} : Left H := { results := [], args := [] }

/-- 'marquetrylaw13.DeltaWrites': WHATEVER THE INPUT: true; the input reads as it did. -/
def deltaWritesSpec : ChangeSpec := { name := "deltaWrites", fn := fun _ => fun
  | [d] => { results := [.lit (.bool true)], args := [d] }
  | _ => none }
def deltaWritesRow : OpenClaim := { program := "ytbncfhmfohpfbaa", sum := "b0cace813bb2bdea9a611495b401b873e124c3f9f70dd1381b4b93d74baf2460", func := "marquetry/marquetrylaw13.DeltaWrites", spec := "deltaWrites", inPlace := ["math/bits.Sub64", "math/bits.Add64"], unfollowed := true, recurses := true, apart := false }
def DeltaWritesSaid : Prop := deltaWritesRow.holds Try.pinned (OpenSpec.ofChange deltaWritesSpec)

/-- ITS FALSE NEIGHBOUR: 'it returns false'. Refute it at one input. -/
def deltaWritesWrong : ChangeSpec := { name := "deltaWrites", fn := fun _ => fun
  | [d] => { results := [.lit (.bool false)], args := [d] }
  | _ => none }
def DeltaWritesWrongFalsely : Prop := deltaWritesRow.holds Try.pinned (OpenSpec.ofChange deltaWritesWrong)

/-- 'marquetrylaw13.DeltaBegins': WHATEVER THE INPUT: true; the input reads as it did. -/
def deltaBeginsSpec : ChangeSpec := { name := "deltaBegins", fn := fun _ => fun
  | [d] => { results := [.lit (.bool true)], args := [d] }
  | _ => none }
def deltaBeginsRow : OpenClaim := { program := "ytbncfhmfohpfbaa", sum := "b0cace813bb2bdea9a611495b401b873e124c3f9f70dd1381b4b93d74baf2460", func := "marquetry/marquetrylaw13.DeltaBegins", spec := "deltaBegins", inPlace := ["math/bits.Sub64", "math/bits.Add64"], unfollowed := true, recurses := true, apart := false }
def DeltaBeginsSaid : Prop := deltaBeginsRow.holds Try.pinned (OpenSpec.ofChange deltaBeginsSpec)

/-- ITS FALSE NEIGHBOUR: 'it returns false'. Refute it at one input. -/
def deltaBeginsWrong : ChangeSpec := { name := "deltaBegins", fn := fun _ => fun
  | [d] => { results := [.lit (.bool false)], args := [d] }
  | _ => none }
def DeltaBeginsWrongFalsely : Prop := deltaBeginsRow.holds Try.pinned (OpenSpec.ofChange deltaBeginsWrong)

/-- 'marquetrylaw13.DeltaReads': WHATEVER THE INPUT: true; the input reads as it did. -/
def deltaReadsSpec : ChangeSpec := { name := "deltaReads", fn := fun _ => fun
  | [d1, d2] => { results := [.lit (.bool true)], args := [d1, d2] }
  | _ => none }
def deltaReadsRow : OpenClaim := { program := "ytbncfhmfohpfbaa", sum := "b0cace813bb2bdea9a611495b401b873e124c3f9f70dd1381b4b93d74baf2460", func := "marquetry/marquetrylaw13.DeltaReads", spec := "deltaReads", inPlace := ["math/bits.Sub64", "math/bits.Add64"], unfollowed := true, recurses := true, apart := false }
def DeltaReadsSaid : Prop := deltaReadsRow.holds Try.pinned (OpenSpec.ofChange deltaReadsSpec)

/-- ITS FALSE NEIGHBOUR: 'it returns false'. Refute it at one input. -/
def deltaReadsWrong : ChangeSpec := { name := "deltaReads", fn := fun _ => fun
  | [d1, d2] => { results := [.lit (.bool false)], args := [d1, d2] }
  | _ => none }
def DeltaReadsWrongFalsely : Prop := deltaReadsRow.holds Try.pinned (OpenSpec.ofChange deltaReadsWrong)

/-- 'marquetrylaw13.DeltaPacks': WHATEVER THE INPUT: true; the input reads as it did. -/
def deltaPacksSpec : ChangeSpec := { name := "deltaPacks", fn := fun _ => fun
  | [d1, d2] => { results := [.lit (.bool true)], args := [d1, d2] }
  | _ => none }
def deltaPacksRow : OpenClaim := { program := "ytbncfhmfohpfbaa", sum := "b0cace813bb2bdea9a611495b401b873e124c3f9f70dd1381b4b93d74baf2460", func := "marquetry/marquetrylaw13.DeltaPacks", spec := "deltaPacks", inPlace := ["math/bits.Sub64", "math/bits.Add64"], unfollowed := true, recurses := true, apart := false }
def DeltaPacksSaid : Prop := deltaPacksRow.holds Try.pinned (OpenSpec.ofChange deltaPacksSpec)

/-- ITS FALSE NEIGHBOUR: 'it returns false'. Refute it at one input. -/
def deltaPacksWrong : ChangeSpec := { name := "deltaPacks", fn := fun _ => fun
  | [d1, d2] => { results := [.lit (.bool false)], args := [d1, d2] }
  | _ => none }
def DeltaPacksWrongFalsely : Prop := deltaPacksRow.holds Try.pinned (OpenSpec.ofChange deltaPacksWrong)

/-- 'marquetrylaw13.DeltaBounds': WHATEVER THE INPUT: true; the input reads as it did. -/
def deltaBoundsSpec : ChangeSpec := { name := "deltaBounds", fn := fun _ => fun
  | [] => { results := [.lit (.bool true)], args := [] }
  | _ => none }
def deltaBoundsRow : OpenClaim := { program := "ytbncfhmfohpfbaa", sum := "b0cace813bb2bdea9a611495b401b873e124c3f9f70dd1381b4b93d74baf2460", func := "marquetry/marquetrylaw13.DeltaBounds", spec := "deltaBounds", inPlace := ["math/bits.Sub64", "math/bits.Add64"], unfollowed := true, recurses := true, apart := false }
def DeltaBoundsSaid : Prop := deltaBoundsRow.holds Try.pinned (OpenSpec.ofChange deltaBoundsSpec)

/-- ITS FALSE NEIGHBOUR: 'it returns false'. Refute it at one input. -/
def deltaBoundsWrong : ChangeSpec := { name := "deltaBounds", fn := fun _ => fun
  | [] => { results := [.lit (.bool false)], args := [] }
  | _ => none }
def DeltaBoundsWrongFalsely : Prop := deltaBoundsRow.holds Try.pinned (OpenSpec.ofChange deltaBoundsWrong)

/-- 'marquetrylaw13.DeltaBack': WHATEVER THE INPUT: true; the input reads as it did. -/
def deltaBackSpec : ChangeSpec := { name := "deltaBack", fn := fun _ => fun
  | [d1, d2] => { results := [.lit (.bool true)], args := [d1, d2] }
  | _ => none }
def deltaBackRow : OpenClaim := { program := "ytbncfhmfohpfbaa", sum := "b0cace813bb2bdea9a611495b401b873e124c3f9f70dd1381b4b93d74baf2460", func := "marquetry/marquetrylaw13.DeltaBack", spec := "deltaBack", inPlace := ["math/bits.Sub64", "math/bits.Add64"], unfollowed := true, recurses := true, apart := false }
def DeltaBackSaid : Prop := deltaBackRow.holds Try.pinned (OpenSpec.ofChange deltaBackSpec)

/-- ITS FALSE NEIGHBOUR: 'it returns false'. Refute it at one input. -/
def deltaBackWrong : ChangeSpec := { name := "deltaBack", fn := fun _ => fun
  | [d1, d2] => { results := [.lit (.bool false)], args := [d1, d2] }
  | _ => none }
def DeltaBackWrongFalsely : Prop := deltaBackRow.holds Try.pinned (OpenSpec.ofChange deltaBackWrong)

/-- 'marquetrylaw13.DeltaAgain': WHATEVER THE INPUT: true; the input reads as it did. -/
def deltaAgainSpec : ChangeSpec := { name := "deltaAgain", fn := fun _ => fun
  | [d] => { results := [.lit (.bool true)], args := [d] }
  | _ => none }
def deltaAgainRow : OpenClaim := { program := "ytbncfhmfohpfbaa", sum := "b0cace813bb2bdea9a611495b401b873e124c3f9f70dd1381b4b93d74baf2460", func := "marquetry/marquetrylaw13.DeltaAgain", spec := "deltaAgain", inPlace := ["math/bits.Sub64", "math/bits.Add64"], unfollowed := true, recurses := true, apart := false }
def DeltaAgainSaid : Prop := deltaAgainRow.holds Try.pinned (OpenSpec.ofChange deltaAgainSpec)

/-- ITS FALSE NEIGHBOUR: 'it returns false'. Refute it at one input. -/
def deltaAgainWrong : ChangeSpec := { name := "deltaAgain", fn := fun _ => fun
  | [d] => { results := [.lit (.bool false)], args := [d] }
  | _ => none }
def DeltaAgainWrongFalsely : Prop := deltaAgainRow.holds Try.pinned (OpenSpec.ofChange deltaAgainWrong)

/-- 'marquetrylaw13.DeltaMoved': WHATEVER THE INPUT: true; the input reads as it did. -/
def deltaMovedSpec : ChangeSpec := { name := "deltaMoved", fn := fun _ => fun
  | [d1, d2] => { results := [.lit (.bool true)], args := [d1, d2] }
  | _ => none }
def deltaMovedRow : OpenClaim := { program := "ytbncfhmfohpfbaa", sum := "b0cace813bb2bdea9a611495b401b873e124c3f9f70dd1381b4b93d74baf2460", func := "marquetry/marquetrylaw13.DeltaMoved", spec := "deltaMoved", inPlace := ["math/bits.Sub64", "math/bits.Add64"], unfollowed := true, recurses := true, apart := false }
def DeltaMovedSaid : Prop := deltaMovedRow.holds Try.pinned (OpenSpec.ofChange deltaMovedSpec)

/-- ITS FALSE NEIGHBOUR: 'it returns false'. Refute it at one input. -/
def deltaMovedWrong : ChangeSpec := { name := "deltaMoved", fn := fun _ => fun
  | [d1, d2] => { results := [.lit (.bool false)], args := [d1, d2] }
  | _ => none }
def DeltaMovedWrongFalsely : Prop := deltaMovedRow.holds Try.pinned (OpenSpec.ofChange deltaMovedWrong)

/- THE SECOND FORM. 'bulk': how many values and letters a reading holds, each counted each time it is reached (what is shared counts as often as it is met; a slice's spare places count too). A statement '..UptoSaid' is the law's where the arguments, and the package variables that the reading takes, are together of bulk at most 1048576: NARROWER than '..Said'. Prove '..Said' where nothing that the law and all that it calls make is longer than what came in: it says more and counts as full. Else prove '..UptoSaid'. A law counts once. -/
mutual
def uptoBulk {H : Type} : DataW H → Nat
  | .lit (.string bytes) => bytes.length + 1
  | .lit _ => 1
  | .nil => 1
  | .ptr d => uptoBulk d + 1
  | .slice elems spare => uptoBulkAll elems + uptoBulkAll spare + 1
  | .agg parts => uptoBulkAll parts + 1
  | .iface _ d => uptoBulk d + 1
  | .map entries => uptoBulkEntries entries + 1
  | .held _ => 1
def uptoBulkAll {H : Type} : List (DataW H) → Nat
  | [] => 0
  | d :: r => uptoBulk d + uptoBulkAll r
def uptoBulkEntries {H : Type} : List (Lit × DataW H) → Nat
  | [] => 0
  | x :: r => uptoBulkEntry x + uptoBulkEntries r
def uptoBulkEntry {H : Type} : Lit × DataW H → Nat
  | (.string bytes, d) => bytes.length + uptoBulk d + 1
  | (_, d) => uptoBulk d + 1
 end
def uptoSmall : (H : Type) → List (DataW H) → Bool := fun _ ds => decide (uptoBulkAll ds ≤ 1048576)
def OpenSpec.upto (s : _root_.Go.ChangeSpec) : _root_.Go.OpenSpec := { _root_.Go.OpenSpec.ofChange s with cond := some uptoSmall }

/-- 'marquetrylaw13.DeltaWrites', WHERE WHAT IT READS IS OF BULK AT MOST 1048576: true; the input reads as it did. -/
def deltaWritesUptoRow : OpenClaim := { program := "ytbncfhmfohpfbaa", sum := "b0cace813bb2bdea9a611495b401b873e124c3f9f70dd1381b4b93d74baf2460", func := "marquetry/marquetrylaw13.DeltaWrites", spec := "deltaWrites", inPlace := ["math/bits.Sub64", "math/bits.Add64"], unfollowed := true, recurses := true, apart := false, narrowed := true }
def DeltaWritesUptoSaid : Prop := deltaWritesUptoRow.holds Try.pinned (OpenSpec.upto deltaWritesSpec)

/-- 'marquetrylaw13.DeltaBegins', WHERE WHAT IT READS IS OF BULK AT MOST 1048576: true; the input reads as it did. -/
def deltaBeginsUptoRow : OpenClaim := { program := "ytbncfhmfohpfbaa", sum := "b0cace813bb2bdea9a611495b401b873e124c3f9f70dd1381b4b93d74baf2460", func := "marquetry/marquetrylaw13.DeltaBegins", spec := "deltaBegins", inPlace := ["math/bits.Sub64", "math/bits.Add64"], unfollowed := true, recurses := true, apart := false, narrowed := true }
def DeltaBeginsUptoSaid : Prop := deltaBeginsUptoRow.holds Try.pinned (OpenSpec.upto deltaBeginsSpec)

/-- 'marquetrylaw13.DeltaReads', WHERE WHAT IT READS IS OF BULK AT MOST 1048576: true; the input reads as it did. -/
def deltaReadsUptoRow : OpenClaim := { program := "ytbncfhmfohpfbaa", sum := "b0cace813bb2bdea9a611495b401b873e124c3f9f70dd1381b4b93d74baf2460", func := "marquetry/marquetrylaw13.DeltaReads", spec := "deltaReads", inPlace := ["math/bits.Sub64", "math/bits.Add64"], unfollowed := true, recurses := true, apart := false, narrowed := true }
def DeltaReadsUptoSaid : Prop := deltaReadsUptoRow.holds Try.pinned (OpenSpec.upto deltaReadsSpec)

/-- 'marquetrylaw13.DeltaPacks', WHERE WHAT IT READS IS OF BULK AT MOST 1048576: true; the input reads as it did. -/
def deltaPacksUptoRow : OpenClaim := { program := "ytbncfhmfohpfbaa", sum := "b0cace813bb2bdea9a611495b401b873e124c3f9f70dd1381b4b93d74baf2460", func := "marquetry/marquetrylaw13.DeltaPacks", spec := "deltaPacks", inPlace := ["math/bits.Sub64", "math/bits.Add64"], unfollowed := true, recurses := true, apart := false, narrowed := true }
def DeltaPacksUptoSaid : Prop := deltaPacksUptoRow.holds Try.pinned (OpenSpec.upto deltaPacksSpec)

/-- 'marquetrylaw13.DeltaBounds', WHERE WHAT IT READS IS OF BULK AT MOST 1048576: true; the input reads as it did. -/
def deltaBoundsUptoRow : OpenClaim := { program := "ytbncfhmfohpfbaa", sum := "b0cace813bb2bdea9a611495b401b873e124c3f9f70dd1381b4b93d74baf2460", func := "marquetry/marquetrylaw13.DeltaBounds", spec := "deltaBounds", inPlace := ["math/bits.Sub64", "math/bits.Add64"], unfollowed := true, recurses := true, apart := false, narrowed := true }
def DeltaBoundsUptoSaid : Prop := deltaBoundsUptoRow.holds Try.pinned (OpenSpec.upto deltaBoundsSpec)

/-- 'marquetrylaw13.DeltaBack', WHERE WHAT IT READS IS OF BULK AT MOST 1048576: true; the input reads as it did. -/
def deltaBackUptoRow : OpenClaim := { program := "ytbncfhmfohpfbaa", sum := "b0cace813bb2bdea9a611495b401b873e124c3f9f70dd1381b4b93d74baf2460", func := "marquetry/marquetrylaw13.DeltaBack", spec := "deltaBack", inPlace := ["math/bits.Sub64", "math/bits.Add64"], unfollowed := true, recurses := true, apart := false, narrowed := true }
def DeltaBackUptoSaid : Prop := deltaBackUptoRow.holds Try.pinned (OpenSpec.upto deltaBackSpec)

/-- 'marquetrylaw13.DeltaAgain', WHERE WHAT IT READS IS OF BULK AT MOST 1048576: true; the input reads as it did. -/
def deltaAgainUptoRow : OpenClaim := { program := "ytbncfhmfohpfbaa", sum := "b0cace813bb2bdea9a611495b401b873e124c3f9f70dd1381b4b93d74baf2460", func := "marquetry/marquetrylaw13.DeltaAgain", spec := "deltaAgain", inPlace := ["math/bits.Sub64", "math/bits.Add64"], unfollowed := true, recurses := true, apart := false, narrowed := true }
def DeltaAgainUptoSaid : Prop := deltaAgainUptoRow.holds Try.pinned (OpenSpec.upto deltaAgainSpec)

/-- 'marquetrylaw13.DeltaMoved', WHERE WHAT IT READS IS OF BULK AT MOST 1048576: true; the input reads as it did. -/
def deltaMovedUptoRow : OpenClaim := { program := "ytbncfhmfohpfbaa", sum := "b0cace813bb2bdea9a611495b401b873e124c3f9f70dd1381b4b93d74baf2460", func := "marquetry/marquetrylaw13.DeltaMoved", spec := "deltaMoved", inPlace := ["math/bits.Sub64", "math/bits.Add64"], unfollowed := true, recurses := true, apart := false, narrowed := true }
def DeltaMovedUptoSaid : Prop := deltaMovedUptoRow.holds Try.pinned (OpenSpec.upto deltaMovedSpec)

end Rows
end Go.Proofs.Ytbncfhmfohpfbaa
