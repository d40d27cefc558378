/-
  No cell of these rows narrows 'for every input' (looked for: loops, veiled, ifaces, maps, wideKeys, modest, calm, conditions, laid).
  DERIVED. THE GIVEN ROWS OF THIS SEAT. 4 by the template 'for every input the law returns true; each argument reads behind the call as it read before'; 0 by the template 'total and deterministic' (their statements: YtcklkngljapecaaTotals.lean).
  GIVEN WITH THE SEED: the statements are not yours to turn. If you find one false, say at which input.
  Laid BY PROGRAM, IN A SANDBOX (cutbox-rows.mjs): the forced cells as the released guide's own fill.sh prints them over the translation bf22c81d09c64294… (all of the seat's roots in one cut). By AI agents, Wed Nov 11 2026. No macro, syntax, notation, axiom, sorry.
-/
import Derived.Test.YtcklkngljapecaaChecked
import GoSem.Claim
import GoSem.ClaimJoined
import GoSem.ClaimMapViews
import Derived.JoinedTies
import Derived.KernelRfl
namespace Go.Proofs.Ytcklkngljapecaa
/- THE CELL 'sum', in the pinned program and in every row, IS THE sha256 OF THE DUMP (.gsa) THAT YtcklkngljapecaaProg.lean LOADS. Nothing in Lean hashes anything: it is a label: what it is worth is what the hold of that sum in a sandbox is worth. -/
noncomputable def Try.pinned : Pinned := { name := "ytcklkngljapecaa", sum := "bf22c81d09c64294a8b3f90037cec3033fe9c4fa913707451ec832d97d174a07", checked := Try.checked }
namespace Rows
def none {H : Type} : Left H := { results := [], args := [] }

/-- 'marquetrylaw10.PlainAll': WHATEVER THE INPUT: true; the input reads as it did. -/
def plainAllSpec : ChangeSpec := { name := "plainAll", fn := fun _ => fun
  | [d1, d2, d3] => { results := [.lit (.bool true)], args := [d1, d2, d3] }
  | _ => none }
def plainAllRow : OpenClaim := { program := "ytcklkngljapecaa", sum := "bf22c81d09c64294a8b3f90037cec3033fe9c4fa913707451ec832d97d174a07", func := "marquetry/marquetrylaw10.PlainAll", spec := "plainAll", unfollowed := true, recurses := true, apart := false }
def PlainAllSaid : Prop := plainAllRow.holds Try.pinned (OpenSpec.ofChange plainAllSpec)

/-- ITS FALSE NEIGHBOUR: 'it returns false'. Refute it at one input. -/
def plainAllWrong : ChangeSpec := { name := "plainAll", fn := fun _ => fun
  | [d1, d2, d3] => { results := [.lit (.bool false)], args := [d1, d2, d3] }
  | _ => none }
def PlainAllWrongFalsely : Prop := plainAllRow.holds Try.pinned (OpenSpec.ofChange plainAllWrong)

/-- 'marquetrylaw10.PlainRead': WHATEVER THE INPUT: true; the input reads as it did. -/
def plainReadSpec : ChangeSpec := { name := "plainRead", fn := fun _ => fun
  | [d1, d2, d3] => { results := [.lit (.bool true)], args := [d1, d2, d3] }
  | _ => none }
def plainReadRow : OpenClaim := { program := "ytcklkngljapecaa", sum := "bf22c81d09c64294a8b3f90037cec3033fe9c4fa913707451ec832d97d174a07", func := "marquetry/marquetrylaw10.PlainRead", spec := "plainRead", unfollowed := true, recurses := true, apart := false }
def PlainReadSaid : Prop := plainReadRow.holds Try.pinned (OpenSpec.ofChange plainReadSpec)

/-- ITS FALSE NEIGHBOUR: 'it returns false'. Refute it at one input. -/
def plainReadWrong : ChangeSpec := { name := "plainRead", fn := fun _ => fun
  | [d1, d2, d3] => { results := [.lit (.bool false)], args := [d1, d2, d3] }
  | _ => none }
def PlainReadWrongFalsely : Prop := plainReadRow.holds Try.pinned (OpenSpec.ofChange plainReadWrong)

/-- 'marquetrylaw10.PlainWrite': WHATEVER THE INPUT: true; the input reads as it did. -/
def plainWriteSpec : ChangeSpec := { name := "plainWrite", fn := fun _ => fun
  | [d1, d2] => { results := [.lit (.bool true)], args := [d1, d2] }
  | _ => none }
def plainWriteRow : OpenClaim := { program := "ytcklkngljapecaa", sum := "bf22c81d09c64294a8b3f90037cec3033fe9c4fa913707451ec832d97d174a07", func := "marquetry/marquetrylaw10.PlainWrite", spec := "plainWrite", unfollowed := true, recurses := true, apart := false }
def PlainWriteSaid : Prop := plainWriteRow.holds Try.pinned (OpenSpec.ofChange plainWriteSpec)

/-- ITS FALSE NEIGHBOUR: 'it returns false'. Refute it at one input. -/
def plainWriteWrong : ChangeSpec := { name := "plainWrite", fn := fun _ => fun
  | [d1, d2] => { results := [.lit (.bool false)], args := [d1, d2] }
  | _ => none }
def PlainWriteWrongFalsely : Prop := plainWriteRow.holds Try.pinned (OpenSpec.ofChange plainWriteWrong)

/-- 'marquetrylaw10.PlainBack': WHATEVER THE INPUT: true; the input reads as it did. -/
def plainBackSpec : ChangeSpec := { name := "plainBack", fn := fun _ => fun
  | [d1, d2, d3] => { results := [.lit (.bool true)], args := [d1, d2, d3] }
  | _ => none }
def plainBackRow : OpenClaim := { program := "ytcklkngljapecaa", sum := "bf22c81d09c64294a8b3f90037cec3033fe9c4fa913707451ec832d97d174a07", func := "marquetry/marquetrylaw10.PlainBack", spec := "plainBack", unfollowed := true, recurses := true, apart := false }
def PlainBackSaid : Prop := plainBackRow.holds Try.pinned (OpenSpec.ofChange plainBackSpec)

/-- ITS FALSE NEIGHBOUR: 'it returns false'. Refute it at one input. -/
def plainBackWrong : ChangeSpec := { name := "plainBack", fn := fun _ => fun
  | [d1, d2, d3] => { results := [.lit (.bool false)], args := [d1, d2, d3] }
  | _ => none }
def PlainBackWrongFalsely : Prop := plainBackRow.holds Try.pinned (OpenSpec.ofChange plainBackWrong)

/- THE SECOND FORM. 'bulk': how many values and letters a reading holds, each counted each time it is reached (what is shared counts as often as it is met; a slice's spare places count too). A statement '..UptoSaid' is the law's where the arguments, and the package variables that the reading takes, are together of bulk at most 1048576: NARROWER than '..Said'. Prove '..Said' where nothing that the law and all that it calls make is longer than what came in: it says more and counts as full. Else prove '..UptoSaid'. A law counts once. -/
mutual
def uptoBulk {H : Type} : DataW H → Nat
  | .lit (.string bytes) => bytes.length + 1
  | .lit _ => 1
  | .nil => 1
  | .ptr d => uptoBulk d + 1
  | .slice elems spare => uptoBulkAll elems + uptoBulkAll spare + 1
  | .agg parts => uptoBulkAll parts + 1
  | .iface _ d => uptoBulk d + 1
  | .map entries => uptoBulkEntries entries + 1
  | .held _ => 1
def uptoBulkAll {H : Type} : List (DataW H) → Nat
  | [] => 0
  | d :: r => uptoBulk d + uptoBulkAll r
def uptoBulkEntries {H : Type} : List (Lit × DataW H) → Nat
  | [] => 0
  | x :: r => uptoBulkEntry x + uptoBulkEntries r
def uptoBulkEntry {H : Type} : Lit × DataW H → Nat
  | (.string bytes, d) => bytes.length + uptoBulk d + 1
  | (_, d) => uptoBulk d + 1
 end
def uptoSmall : (H : Type) → List (DataW H) → Bool := fun _ ds => decide (uptoBulkAll ds ≤ 1048576)
def OpenSpec.upto (s : _root_.Go.ChangeSpec) : _root_.Go.OpenSpec := { _root_.Go.OpenSpec.ofChange s with cond := some uptoSmall }

/-- 'marquetrylaw10.PlainAll', WHERE WHAT IT READS IS OF BULK AT MOST 1048576: true; the input reads as it did. -/
def plainAllUptoRow : OpenClaim := { program := "ytcklkngljapecaa", sum := "bf22c81d09c64294a8b3f90037cec3033fe9c4fa913707451ec832d97d174a07", func := "marquetry/marquetrylaw10.PlainAll", spec := "plainAll", unfollowed := true, recurses := true, apart := false, narrowed := true }
def PlainAllUptoSaid : Prop := plainAllUptoRow.holds Try.pinned (OpenSpec.upto plainAllSpec)

/-- 'marquetrylaw10.PlainRead', WHERE WHAT IT READS IS OF BULK AT MOST 1048576: true; the input reads as it did. -/
def plainReadUptoRow : OpenClaim := { program := "ytcklkngljapecaa", sum := "bf22c81d09c64294a8b3f90037cec3033fe9c4fa913707451ec832d97d174a07", func := "marquetry/marquetrylaw10.PlainRead", spec := "plainRead", unfollowed := true, recurses := true, apart := false, narrowed := true }
def PlainReadUptoSaid : Prop := plainReadUptoRow.holds Try.pinned (OpenSpec.upto plainReadSpec)

/-- 'marquetrylaw10.PlainWrite', WHERE WHAT IT READS IS OF BULK AT MOST 1048576: true; the input reads as it did. -/
def plainWriteUptoRow : OpenClaim := { program := "ytcklkngljapecaa", sum := "bf22c81d09c64294a8b3f90037cec3033fe9c4fa913707451ec832d97d174a07", func := "marquetry/marquetrylaw10.PlainWrite", spec := "plainWrite", unfollowed := true, recurses := true, apart := false, narrowed := true }
def PlainWriteUptoSaid : Prop := plainWriteUptoRow.holds Try.pinned (OpenSpec.upto plainWriteSpec)

/-- 'marquetrylaw10.PlainBack', WHERE WHAT IT READS IS OF BULK AT MOST 1048576: true; the input reads as it did. -/
def plainBackUptoRow : OpenClaim := { program := "ytcklkngljapecaa", sum := "bf22c81d09c64294a8b3f90037cec3033fe9c4fa913707451ec832d97d174a07", func := "marquetry/marquetrylaw10.PlainBack", spec := "plainBack", unfollowed := true, recurses := true, apart := false, narrowed := true }
def PlainBackUptoSaid : Prop := plainBackUptoRow.holds Try.pinned (OpenSpec.upto plainBackSpec)

end Rows
end Go.Proofs.Ytcklkngljapecaa
