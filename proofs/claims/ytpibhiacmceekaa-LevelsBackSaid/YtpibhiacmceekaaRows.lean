/-
  No cell of these rows narrows 'for every input' (looked for: loops, veiled, ifaces, maps, wideKeys, modest, calm, conditions, laid).
  DERIVED. THE GIVEN ROWS OF THIS SEAT. 11 by the template 'for every input the law returns true; each argument reads behind the call as it read before'; 0 by the template 'total and deterministic' (their statements: YtpibhiacmceekaaTotals.lean).
  GIVEN WITH THE SEED: the statements are not yours to turn. If you find one false, say at which input.
  Laid BY PROGRAM, IN A SANDBOX (cutbox-rows.mjs): the forced cells as the released guide's own fill.sh prints them over the translation 973db11b8bc83830… (all of the seat's roots in one cut). By AI agents, Wed Nov 11 2026. No macro, syntax, notation, axiom, sorry.
-/
import Derived.Test.YtpibhiacmceekaaChecked
import GoSem.Claim
import GoSem.ClaimJoined
import GoSem.ClaimMapViews
import Derived.JoinedTies
import Derived.KernelRfl
namespace Go.Proofs.Ytpibhiacmceekaa
/- THE CELL 'sum', in the pinned program and in every row, IS THE sha256 OF THE DUMP (.gsa) THAT YtpibhiacmceekaaProg.lean LOADS. Nothing in Lean hashes anything: it is a label: what it is worth is what the hold of that sum in a sandbox is worth. -/
noncomputable def Try.pinned : Pinned := { name := "ytpibhiacmceekaa", sum := "973db11b8bc838307c64f538e74353d0a471402f93ed22e35b46a3b706681a81", checked := Try.checked }
namespace Rows
def none {H : Type} : Left H := { results := [], args := [] }

/-- 'marquetrylaw12.DictPick': WHATEVER THE INPUT: true; the input reads as it did. -/
def dictPickSpec : ChangeSpec := { name := "dictPick", fn := fun _ => fun
  | [d1, d2] => { results := [.lit (.bool true)], args := [d1, d2] }
  | _ => none }
def dictPickRow : OpenClaim := { program := "ytpibhiacmceekaa", sum := "973db11b8bc838307c64f538e74353d0a471402f93ed22e35b46a3b706681a81", func := "marquetry/marquetrylaw12.DictPick", spec := "dictPick", plainKeys := false, apart := false }
def DictPickSaid : Prop := dictPickRow.holds Try.pinned (OpenSpec.ofChange dictPickSpec)

/-- ITS FALSE NEIGHBOUR: 'it returns false'. Refute it at one input. -/
def dictPickWrong : ChangeSpec := { name := "dictPick", fn := fun _ => fun
  | [d1, d2] => { results := [.lit (.bool false)], args := [d1, d2] }
  | _ => none }
def DictPickWrongFalsely : Prop := dictPickRow.holds Try.pinned (OpenSpec.ofChange dictPickWrong)

/-- 'marquetrylaw20.LevelsCount': WHATEVER THE INPUT: true; the input reads as it did. -/
def levelsCountSpec : ChangeSpec := { name := "levelsCount", fn := fun _ => fun
  | [d1, d2] => { results := [.lit (.bool true)], args := [d1, d2] }
  | _ => none }
def levelsCountRow : OpenClaim := { program := "ytpibhiacmceekaa", sum := "973db11b8bc838307c64f538e74353d0a471402f93ed22e35b46a3b706681a81", func := "marquetry/marquetrylaw20.LevelsCount", spec := "levelsCount", unfollowed := true, recurses := true, plainKeys := false, apart := false }
def LevelsCountSaid : Prop := levelsCountRow.holds Try.pinned (OpenSpec.ofChange levelsCountSpec)

/-- ITS FALSE NEIGHBOUR: 'it returns false'. Refute it at one input. -/
def levelsCountWrong : ChangeSpec := { name := "levelsCount", fn := fun _ => fun
  | [d1, d2] => { results := [.lit (.bool false)], args := [d1, d2] }
  | _ => none }
def LevelsCountWrongFalsely : Prop := levelsCountRow.holds Try.pinned (OpenSpec.ofChange levelsCountWrong)

/-- 'marquetrylaw12.DictMake': WHATEVER THE INPUT: true; the input reads as it did. -/
def dictMakeSpec : ChangeSpec := { name := "dictMake", fn := fun _ => fun
  | [d] => { results := [.lit (.bool true)], args := [d] }
  | _ => none }
def dictMakeRow : OpenClaim := { program := "ytpibhiacmceekaa", sum := "973db11b8bc838307c64f538e74353d0a471402f93ed22e35b46a3b706681a81", func := "marquetry/marquetrylaw12.DictMake", spec := "dictMake", plainKeys := false, apart := false }
def DictMakeSaid : Prop := dictMakeRow.holds Try.pinned (OpenSpec.ofChange dictMakeSpec)

/-- ITS FALSE NEIGHBOUR: 'it returns false'. Refute it at one input. -/
def dictMakeWrong : ChangeSpec := { name := "dictMake", fn := fun _ => fun
  | [d] => { results := [.lit (.bool false)], args := [d] }
  | _ => none }
def DictMakeWrongFalsely : Prop := dictMakeRow.holds Try.pinned (OpenSpec.ofChange dictMakeWrong)

/-- 'marquetrylaw11.HybridWrite': WHATEVER THE INPUT: true; the input reads as it did. -/
def hybridWriteSpec : ChangeSpec := { name := "hybridWrite", fn := fun _ => fun
  | [d1, d2] => { results := [.lit (.bool true)], args := [d1, d2] }
  | _ => none }
def hybridWriteRow : OpenClaim := { program := "ytpibhiacmceekaa", sum := "973db11b8bc838307c64f538e74353d0a471402f93ed22e35b46a3b706681a81", func := "marquetry/marquetrylaw11.HybridWrite", spec := "hybridWrite", plainKeys := false, apart := false }
def HybridWriteSaid : Prop := hybridWriteRow.holds Try.pinned (OpenSpec.ofChange hybridWriteSpec)

/-- ITS FALSE NEIGHBOUR: 'it returns false'. Refute it at one input. -/
def hybridWriteWrong : ChangeSpec := { name := "hybridWrite", fn := fun _ => fun
  | [d1, d2] => { results := [.lit (.bool false)], args := [d1, d2] }
  | _ => none }
def HybridWriteWrongFalsely : Prop := hybridWriteRow.holds Try.pinned (OpenSpec.ofChange hybridWriteWrong)

/-- 'marquetrylaw12.DictWrite': WHATEVER THE INPUT: true; the input reads as it did. -/
def dictWriteSpec : ChangeSpec := { name := "dictWrite", fn := fun _ => fun
  | [d1, d2] => { results := [.lit (.bool true)], args := [d1, d2] }
  | _ => none }
def dictWriteRow : OpenClaim := { program := "ytpibhiacmceekaa", sum := "973db11b8bc838307c64f538e74353d0a471402f93ed22e35b46a3b706681a81", func := "marquetry/marquetrylaw12.DictWrite", spec := "dictWrite", unfollowed := true, recurses := true, plainKeys := false, apart := false }
def DictWriteSaid : Prop := dictWriteRow.holds Try.pinned (OpenSpec.ofChange dictWriteSpec)

/-- ITS FALSE NEIGHBOUR: 'it returns false'. Refute it at one input. -/
def dictWriteWrong : ChangeSpec := { name := "dictWrite", fn := fun _ => fun
  | [d1, d2] => { results := [.lit (.bool false)], args := [d1, d2] }
  | _ => none }
def DictWriteWrongFalsely : Prop := dictWriteRow.holds Try.pinned (OpenSpec.ofChange dictWriteWrong)

/-- 'marquetrylaw20.LevelsWrite': WHATEVER THE INPUT: true; the input reads as it did. -/
def levelsWriteSpec : ChangeSpec := { name := "levelsWrite", fn := fun _ => fun
  | [d1, d2] => { results := [.lit (.bool true)], args := [d1, d2] }
  | _ => none }
def levelsWriteRow : OpenClaim := { program := "ytpibhiacmceekaa", sum := "973db11b8bc838307c64f538e74353d0a471402f93ed22e35b46a3b706681a81", func := "marquetry/marquetrylaw20.LevelsWrite", spec := "levelsWrite", plainKeys := false, apart := false }
def LevelsWriteSaid : Prop := levelsWriteRow.holds Try.pinned (OpenSpec.ofChange levelsWriteSpec)

/-- ITS FALSE NEIGHBOUR: 'it returns false'. Refute it at one input. -/
def levelsWriteWrong : ChangeSpec := { name := "levelsWrite", fn := fun _ => fun
  | [d1, d2] => { results := [.lit (.bool false)], args := [d1, d2] }
  | _ => none }
def LevelsWriteWrongFalsely : Prop := levelsWriteRow.holds Try.pinned (OpenSpec.ofChange levelsWriteWrong)

/-- 'marquetrylaw20.LevelsRead': WHATEVER THE INPUT: true; the input reads as it did. -/
def levelsReadSpec : ChangeSpec := { name := "levelsRead", fn := fun _ => fun
  | [d1, d2, d3] => { results := [.lit (.bool true)], args := [d1, d2, d3] }
  | _ => none }
def levelsReadRow : OpenClaim := { program := "ytpibhiacmceekaa", sum := "973db11b8bc838307c64f538e74353d0a471402f93ed22e35b46a3b706681a81", func := "marquetry/marquetrylaw20.LevelsRead", spec := "levelsRead", unfollowed := true, recurses := true, plainKeys := false, apart := false }
def LevelsReadSaid : Prop := levelsReadRow.holds Try.pinned (OpenSpec.ofChange levelsReadSpec)

/-- ITS FALSE NEIGHBOUR: 'it returns false'. Refute it at one input. -/
def levelsReadWrong : ChangeSpec := { name := "levelsRead", fn := fun _ => fun
  | [d1, d2, d3] => { results := [.lit (.bool false)], args := [d1, d2, d3] }
  | _ => none }
def LevelsReadWrongFalsely : Prop := levelsReadRow.holds Try.pinned (OpenSpec.ofChange levelsReadWrong)

/-- 'marquetrylaw20.LevelsUnframe': WHATEVER THE INPUT: true; the input reads as it did. -/
def levelsUnframeSpec : ChangeSpec := { name := "levelsUnframe", fn := fun _ => fun
  | [d1, d2, d3] => { results := [.lit (.bool true)], args := [d1, d2, d3] }
  | _ => none }
def levelsUnframeRow : OpenClaim := { program := "ytpibhiacmceekaa", sum := "973db11b8bc838307c64f538e74353d0a471402f93ed22e35b46a3b706681a81", func := "marquetry/marquetrylaw20.LevelsUnframe", spec := "levelsUnframe", unfollowed := true, recurses := true, plainKeys := false, apart := false }
def LevelsUnframeSaid : Prop := levelsUnframeRow.holds Try.pinned (OpenSpec.ofChange levelsUnframeSpec)

/-- ITS FALSE NEIGHBOUR: 'it returns false'. Refute it at one input. -/
def levelsUnframeWrong : ChangeSpec := { name := "levelsUnframe", fn := fun _ => fun
  | [d1, d2, d3] => { results := [.lit (.bool false)], args := [d1, d2, d3] }
  | _ => none }
def LevelsUnframeWrongFalsely : Prop := levelsUnframeRow.holds Try.pinned (OpenSpec.ofChange levelsUnframeWrong)

/-- 'marquetrylaw11.HybridBack': WHATEVER THE INPUT: true; the input reads as it did. -/
def hybridBackSpec : ChangeSpec := { name := "hybridBack", fn := fun _ => fun
  | [d1, d2, d3] => { results := [.lit (.bool true)], args := [d1, d2, d3] }
  | _ => none }
def hybridBackRow : OpenClaim := { program := "ytpibhiacmceekaa", sum := "973db11b8bc838307c64f538e74353d0a471402f93ed22e35b46a3b706681a81", func := "marquetry/marquetrylaw11.HybridBack", spec := "hybridBack", unfollowed := true, recurses := true, plainKeys := false, apart := false }
def HybridBackSaid : Prop := hybridBackRow.holds Try.pinned (OpenSpec.ofChange hybridBackSpec)

/-- ITS FALSE NEIGHBOUR: 'it returns false'. Refute it at one input. -/
def hybridBackWrong : ChangeSpec := { name := "hybridBack", fn := fun _ => fun
  | [d1, d2, d3] => { results := [.lit (.bool false)], args := [d1, d2, d3] }
  | _ => none }
def HybridBackWrongFalsely : Prop := hybridBackRow.holds Try.pinned (OpenSpec.ofChange hybridBackWrong)

/-- 'marquetrylaw12.DictRead': WHATEVER THE INPUT: true; the input reads as it did. -/
def dictReadSpec : ChangeSpec := { name := "dictRead", fn := fun _ => fun
  | [d1, d2, d3] => { results := [.lit (.bool true)], args := [d1, d2, d3] }
  | _ => none }
def dictReadRow : OpenClaim := { program := "ytpibhiacmceekaa", sum := "973db11b8bc838307c64f538e74353d0a471402f93ed22e35b46a3b706681a81", func := "marquetry/marquetrylaw12.DictRead", spec := "dictRead", unfollowed := true, recurses := true, plainKeys := false, apart := false }
def DictReadSaid : Prop := dictReadRow.holds Try.pinned (OpenSpec.ofChange dictReadSpec)

/-- ITS FALSE NEIGHBOUR: 'it returns false'. Refute it at one input. -/
def dictReadWrong : ChangeSpec := { name := "dictRead", fn := fun _ => fun
  | [d1, d2, d3] => { results := [.lit (.bool false)], args := [d1, d2, d3] }
  | _ => none }
def DictReadWrongFalsely : Prop := dictReadRow.holds Try.pinned (OpenSpec.ofChange dictReadWrong)

/-- 'marquetrylaw20.LevelsBack': WHATEVER THE INPUT: true; the input reads as it did. -/
def levelsBackSpec : ChangeSpec := { name := "levelsBack", fn := fun _ => fun
  | [d1, d2, d3] => { results := [.lit (.bool true)], args := [d1, d2, d3] }
  | _ => none }
def levelsBackRow : OpenClaim := { program := "ytpibhiacmceekaa", sum := "973db11b8bc838307c64f538e74353d0a471402f93ed22e35b46a3b706681a81", func := "marquetry/marquetrylaw20.LevelsBack", spec := "levelsBack", unfollowed := true, recurses := true, plainKeys := false, apart := false }
def LevelsBackSaid : Prop := levelsBackRow.holds Try.pinned (OpenSpec.ofChange levelsBackSpec)

/-- ITS FALSE NEIGHBOUR: 'it returns false'. Refute it at one input. -/
def levelsBackWrong : ChangeSpec := { name := "levelsBack", fn := fun _ => fun
  | [d1, d2, d3] => { results := [.lit (.bool false)], args := [d1, d2, d3] }
  | _ => none }
def LevelsBackWrongFalsely : Prop := levelsBackRow.holds Try.pinned (OpenSpec.ofChange levelsBackWrong)

/- THE SECOND FORM. 'bulk': how many values and letters a reading holds, each counted each time it is reached (what is shared counts as often as it is met; a slice's spare places count too). A statement '..UptoSaid' is the law's where the arguments, and the package variables that the reading takes, are together of bulk at most 1048576: NARROWER than '..Said'. Prove '..Said' where nothing that the law and all that it calls make is longer than what came in: it says more and counts as full. Else prove '..UptoSaid'. A law counts once. -/
mutual
def uptoBulk {H : Type} : DataW H → Nat
  | .lit (.string bytes) => bytes.length + 1
  | .lit _ => 1
  | .nil => 1
  | .ptr d => uptoBulk d + 1
  | .slice elems spare => uptoBulkAll elems + uptoBulkAll spare + 1
  | .agg parts => uptoBulkAll parts + 1
  | .iface _ d => uptoBulk d + 1
  | .map entries => uptoBulkEntries entries + 1
  | .held _ => 1
def uptoBulkAll {H : Type} : List (DataW H) → Nat
  | [] => 0
  | d :: r => uptoBulk d + uptoBulkAll r
def uptoBulkEntries {H : Type} : List (Lit × DataW H) → Nat
  | [] => 0
  | x :: r => uptoBulkEntry x + uptoBulkEntries r
def uptoBulkEntry {H : Type} : Lit × DataW H → Nat
  | (.string bytes, d) => bytes.length + uptoBulk d + 1
  | (_, d) => uptoBulk d + 1
 end
def uptoSmall : (H : Type) → List (DataW H) → Bool := fun _ ds => decide (uptoBulkAll ds ≤ 1048576)
def OpenSpec.upto (s : _root_.Go.ChangeSpec) : _root_.Go.OpenSpec := { _root_.Go.OpenSpec.ofChange s with cond := some uptoSmall }

/-- 'marquetrylaw12.DictPick', WHERE WHAT IT READS IS OF BULK AT MOST 1048576: true; the input reads as it did. -/
def dictPickUptoRow : OpenClaim := { program := "ytpibhiacmceekaa", sum := "973db11b8bc838307c64f538e74353d0a471402f93ed22e35b46a3b706681a81", func := "marquetry/marquetrylaw12.DictPick", spec := "dictPick", plainKeys := false, apart := false, narrowed := true }
def DictPickUptoSaid : Prop := dictPickUptoRow.holds Try.pinned (OpenSpec.upto dictPickSpec)

/-- 'marquetrylaw20.LevelsCount', WHERE WHAT IT READS IS OF BULK AT MOST 1048576: true; the input reads as it did. -/
def levelsCountUptoRow : OpenClaim := { program := "ytpibhiacmceekaa", sum := "973db11b8bc838307c64f538e74353d0a471402f93ed22e35b46a3b706681a81", func := "marquetry/marquetrylaw20.LevelsCount", spec := "levelsCount", unfollowed := true, recurses := true, plainKeys := false, apart := false, narrowed := true }
def LevelsCountUptoSaid : Prop := levelsCountUptoRow.holds Try.pinned (OpenSpec.upto levelsCountSpec)

/-- 'marquetrylaw12.DictMake', WHERE WHAT IT READS IS OF BULK AT MOST 1048576: true; the input reads as it did. -/
def dictMakeUptoRow : OpenClaim := { program := "ytpibhiacmceekaa", sum := "973db11b8bc838307c64f538e74353d0a471402f93ed22e35b46a3b706681a81", func := "marquetry/marquetrylaw12.DictMake", spec := "dictMake", plainKeys := false, apart := false, narrowed := true }
def DictMakeUptoSaid : Prop := dictMakeUptoRow.holds Try.pinned (OpenSpec.upto dictMakeSpec)

/-- 'marquetrylaw11.HybridWrite', WHERE WHAT IT READS IS OF BULK AT MOST 1048576: true; the input reads as it did. -/
def hybridWriteUptoRow : OpenClaim := { program := "ytpibhiacmceekaa", sum := "973db11b8bc838307c64f538e74353d0a471402f93ed22e35b46a3b706681a81", func := "marquetry/marquetrylaw11.HybridWrite", spec := "hybridWrite", plainKeys := false, apart := false, narrowed := true }
def HybridWriteUptoSaid : Prop := hybridWriteUptoRow.holds Try.pinned (OpenSpec.upto hybridWriteSpec)

/-- 'marquetrylaw12.DictWrite', WHERE WHAT IT READS IS OF BULK AT MOST 1048576: true; the input reads as it did. -/
def dictWriteUptoRow : OpenClaim := { program := "ytpibhiacmceekaa", sum := "973db11b8bc838307c64f538e74353d0a471402f93ed22e35b46a3b706681a81", func := "marquetry/marquetrylaw12.DictWrite", spec := "dictWrite", unfollowed := true, recurses := true, plainKeys := false, apart := false, narrowed := true }
def DictWriteUptoSaid : Prop := dictWriteUptoRow.holds Try.pinned (OpenSpec.upto dictWriteSpec)

/-- 'marquetrylaw20.LevelsWrite', WHERE WHAT IT READS IS OF BULK AT MOST 1048576: true; the input reads as it did. -/
def levelsWriteUptoRow : OpenClaim := { program := "ytpibhiacmceekaa", sum := "973db11b8bc838307c64f538e74353d0a471402f93ed22e35b46a3b706681a81", func := "marquetry/marquetrylaw20.LevelsWrite", spec := "levelsWrite", plainKeys := false, apart := false, narrowed := true }
def LevelsWriteUptoSaid : Prop := levelsWriteUptoRow.holds Try.pinned (OpenSpec.upto levelsWriteSpec)

/-- 'marquetrylaw20.LevelsRead', WHERE WHAT IT READS IS OF BULK AT MOST 1048576: true; the input reads as it did. -/
def levelsReadUptoRow : OpenClaim := { program := "ytpibhiacmceekaa", sum := "973db11b8bc838307c64f538e74353d0a471402f93ed22e35b46a3b706681a81", func := "marquetry/marquetrylaw20.LevelsRead", spec := "levelsRead", unfollowed := true, recurses := true, plainKeys := false, apart := false, narrowed := true }
def LevelsReadUptoSaid : Prop := levelsReadUptoRow.holds Try.pinned (OpenSpec.upto levelsReadSpec)

/-- 'marquetrylaw20.LevelsUnframe', WHERE WHAT IT READS IS OF BULK AT MOST 1048576: true; the input reads as it did. -/
def levelsUnframeUptoRow : OpenClaim := { program := "ytpibhiacmceekaa", sum := "973db11b8bc838307c64f538e74353d0a471402f93ed22e35b46a3b706681a81", func := "marquetry/marquetrylaw20.LevelsUnframe", spec := "levelsUnframe", unfollowed := true, recurses := true, plainKeys := false, apart := false, narrowed := true }
def LevelsUnframeUptoSaid : Prop := levelsUnframeUptoRow.holds Try.pinned (OpenSpec.upto levelsUnframeSpec)

/-- 'marquetrylaw11.HybridBack', WHERE WHAT IT READS IS OF BULK AT MOST 1048576: true; the input reads as it did. -/
def hybridBackUptoRow : OpenClaim := { program := "ytpibhiacmceekaa", sum := "973db11b8bc838307c64f538e74353d0a471402f93ed22e35b46a3b706681a81", func := "marquetry/marquetrylaw11.HybridBack", spec := "hybridBack", unfollowed := true, recurses := true, plainKeys := false, apart := false, narrowed := true }
def HybridBackUptoSaid : Prop := hybridBackUptoRow.holds Try.pinned (OpenSpec.upto hybridBackSpec)

/-- 'marquetrylaw12.DictRead', WHERE WHAT IT READS IS OF BULK AT MOST 1048576: true; the input reads as it did. -/
def dictReadUptoRow : OpenClaim := { program := "ytpibhiacmceekaa", sum := "973db11b8bc838307c64f538e74353d0a471402f93ed22e35b46a3b706681a81", func := "marquetry/marquetrylaw12.DictRead", spec := "dictRead", unfollowed := true, recurses := true, plainKeys := false, apart := false, narrowed := true }
def DictReadUptoSaid : Prop := dictReadUptoRow.holds Try.pinned (OpenSpec.upto dictReadSpec)

/-- 'marquetrylaw20.LevelsBack', WHERE WHAT IT READS IS OF BULK AT MOST 1048576: true; the input reads as it did. -/
def levelsBackUptoRow : OpenClaim := { program := "ytpibhiacmceekaa", sum := "973db11b8bc838307c64f538e74353d0a471402f93ed22e35b46a3b706681a81", func := "marquetry/marquetrylaw20.LevelsBack", spec := "levelsBack", unfollowed := true, recurses := true, plainKeys := false, apart := false, narrowed := true }
def LevelsBackUptoSaid : Prop := levelsBackUptoRow.holds Try.pinned (OpenSpec.upto levelsBackSpec)

end Rows
end Go.Proofs.Ytpibhiacmceekaa
