/-
  No cell of these rows narrows 'for every input' (looked for: loops, veiled, ifaces, maps, wideKeys, modest, calm, conditions, laid).
  DERIVED. THE GIVEN ROWS OF THIS SEAT. 12 by the template 'for every input the law returns true; each argument reads behind the call as it read before'; 0 by the template 'total and deterministic' (their statements: YtgdlbfkblopoeaaTotals.lean).
  GIVEN WITH THE SEED: the statements are not yours to turn. If you find one false, say at which input.
  Laid BY PROGRAM, IN A SANDBOX (cutbox-rows.mjs): the forced cells as the released guide's own fill.sh prints them over the translation 5917d0dabc5abdc9… (all of the seat's roots in one cut). By AI agents, Wed Nov 11 2026. No macro, syntax, notation, axiom, sorry.
-/
import Derived.Test.YtgdlbfkblopoeaaChecked
import GoSem.Claim
import GoSem.ClaimJoined
import GoSem.ClaimMapViews
import Derived.JoinedTies
import Derived.KernelRfl
namespace Go.Proofs.Ytgdlbfkblopoeaa
/- THE CELL 'sum', in the pinned program and in every row, IS THE sha256 OF THE DUMP (.gsa) THAT YtgdlbfkblopoeaaProg.lean LOADS. Nothing in Lean hashes anything: it is a label: what it is worth is what the hold of that sum in a sandbox is worth. -/
noncomputable def Try.pinned : Pinned := { name := "ytgdlbfkblopoeaa", sum := "5917d0dabc5abdc9c9a8a9d3fcff20d9bb4647df9b6814e2c3d438e05fc36557", checked := Try.checked }
namespace Rows
def none {H : Type} : Left H := { results := [], args := [] }

/-- 'marquetrylaw01.BitsZigzag': WHATEVER THE INPUT: true; the input reads as it did. -/
def bitsZigzagSpec : ChangeSpec := { name := "bitsZigzag", fn := fun _ => fun
  | [d] => { results := [.lit (.bool true)], args := [d] }
  | _ => none }
def bitsZigzagRow : OpenClaim := { program := "ytgdlbfkblopoeaa", sum := "5917d0dabc5abdc9c9a8a9d3fcff20d9bb4647df9b6814e2c3d438e05fc36557", func := "marquetry/marquetrylaw01.BitsZigzag", spec := "bitsZigzag", apart := false }
def BitsZigzagSaid : Prop := bitsZigzagRow.holds Try.pinned (OpenSpec.ofChange bitsZigzagSpec)

/-- ITS FALSE NEIGHBOUR: 'it returns false'. Refute it at one input. -/
def bitsZigzagWrong : ChangeSpec := { name := "bitsZigzag", fn := fun _ => fun
  | [d] => { results := [.lit (.bool false)], args := [d] }
  | _ => none }
def BitsZigzagWrongFalsely : Prop := bitsZigzagRow.holds Try.pinned (OpenSpec.ofChange bitsZigzagWrong)

/-- 'marquetrylaw01.BitsUnzigzag': WHATEVER THE INPUT: true; the input reads as it did. -/
def bitsUnzigzagSpec : ChangeSpec := { name := "bitsUnzigzag", fn := fun _ => fun
  | [d] => { results := [.lit (.bool true)], args := [d] }
  | _ => none }
def bitsUnzigzagRow : OpenClaim := { program := "ytgdlbfkblopoeaa", sum := "5917d0dabc5abdc9c9a8a9d3fcff20d9bb4647df9b6814e2c3d438e05fc36557", func := "marquetry/marquetrylaw01.BitsUnzigzag", spec := "bitsUnzigzag", apart := false }
def BitsUnzigzagSaid : Prop := bitsUnzigzagRow.holds Try.pinned (OpenSpec.ofChange bitsUnzigzagSpec)

/-- ITS FALSE NEIGHBOUR: 'it returns false'. Refute it at one input. -/
def bitsUnzigzagWrong : ChangeSpec := { name := "bitsUnzigzag", fn := fun _ => fun
  | [d] => { results := [.lit (.bool false)], args := [d] }
  | _ => none }
def BitsUnzigzagWrongFalsely : Prop := bitsUnzigzagRow.holds Try.pinned (OpenSpec.ofChange bitsUnzigzagWrong)

/-- 'marquetrylaw01.BitsZigzagBack': WHATEVER THE INPUT: true; the input reads as it did. -/
def bitsZigzagBackSpec : ChangeSpec := { name := "bitsZigzagBack", fn := fun _ => fun
  | [d1, d2] => { results := [.lit (.bool true)], args := [d1, d2] }
  | _ => none }
def bitsZigzagBackRow : OpenClaim := { program := "ytgdlbfkblopoeaa", sum := "5917d0dabc5abdc9c9a8a9d3fcff20d9bb4647df9b6814e2c3d438e05fc36557", func := "marquetry/marquetrylaw01.BitsZigzagBack", spec := "bitsZigzagBack", apart := false }
def BitsZigzagBackSaid : Prop := bitsZigzagBackRow.holds Try.pinned (OpenSpec.ofChange bitsZigzagBackSpec)

/-- ITS FALSE NEIGHBOUR: 'it returns false'. Refute it at one input. -/
def bitsZigzagBackWrong : ChangeSpec := { name := "bitsZigzagBack", fn := fun _ => fun
  | [d1, d2] => { results := [.lit (.bool false)], args := [d1, d2] }
  | _ => none }
def BitsZigzagBackWrongFalsely : Prop := bitsZigzagBackRow.holds Try.pinned (OpenSpec.ofChange bitsZigzagBackWrong)

/-- 'marquetrylaw01.BitsWidth': WHATEVER THE INPUT: true; the input reads as it did. -/
def bitsWidthSpec : ChangeSpec := { name := "bitsWidth", fn := fun _ => fun
  | [d] => { results := [.lit (.bool true)], args := [d] }
  | _ => none }
def bitsWidthRow : OpenClaim := { program := "ytgdlbfkblopoeaa", sum := "5917d0dabc5abdc9c9a8a9d3fcff20d9bb4647df9b6814e2c3d438e05fc36557", func := "marquetry/marquetrylaw01.BitsWidth", spec := "bitsWidth", apart := false }
def BitsWidthSaid : Prop := bitsWidthRow.holds Try.pinned (OpenSpec.ofChange bitsWidthSpec)

/-- ITS FALSE NEIGHBOUR: 'it returns false'. Refute it at one input. -/
def bitsWidthWrong : ChangeSpec := { name := "bitsWidth", fn := fun _ => fun
  | [d] => { results := [.lit (.bool false)], args := [d] }
  | _ => none }
def BitsWidthWrongFalsely : Prop := bitsWidthRow.holds Try.pinned (OpenSpec.ofChange bitsWidthWrong)

/-- 'marquetrylaw01.BitsVarint': WHATEVER THE INPUT: true; the input reads as it did. -/
def bitsVarintSpec : ChangeSpec := { name := "bitsVarint", fn := fun _ => fun
  | [d] => { results := [.lit (.bool true)], args := [d] }
  | _ => none }
def bitsVarintRow : OpenClaim := { program := "ytgdlbfkblopoeaa", sum := "5917d0dabc5abdc9c9a8a9d3fcff20d9bb4647df9b6814e2c3d438e05fc36557", func := "marquetry/marquetrylaw01.BitsVarint", spec := "bitsVarint", apart := false }
def BitsVarintSaid : Prop := bitsVarintRow.holds Try.pinned (OpenSpec.ofChange bitsVarintSpec)

/-- ITS FALSE NEIGHBOUR: 'it returns false'. Refute it at one input. -/
def bitsVarintWrong : ChangeSpec := { name := "bitsVarint", fn := fun _ => fun
  | [d] => { results := [.lit (.bool false)], args := [d] }
  | _ => none }
def BitsVarintWrongFalsely : Prop := bitsVarintRow.holds Try.pinned (OpenSpec.ofChange bitsVarintWrong)

/-- 'marquetrylaw01.BitsSize': WHATEVER THE INPUT: true; the input reads as it did. -/
def bitsSizeSpec : ChangeSpec := { name := "bitsSize", fn := fun _ => fun
  | [d1, d2] => { results := [.lit (.bool true)], args := [d1, d2] }
  | _ => none }
def bitsSizeRow : OpenClaim := { program := "ytgdlbfkblopoeaa", sum := "5917d0dabc5abdc9c9a8a9d3fcff20d9bb4647df9b6814e2c3d438e05fc36557", func := "marquetry/marquetrylaw01.BitsSize", spec := "bitsSize", apart := false }
def BitsSizeSaid : Prop := bitsSizeRow.holds Try.pinned (OpenSpec.ofChange bitsSizeSpec)

/-- ITS FALSE NEIGHBOUR: 'it returns false'. Refute it at one input. -/
def bitsSizeWrong : ChangeSpec := { name := "bitsSize", fn := fun _ => fun
  | [d1, d2] => { results := [.lit (.bool false)], args := [d1, d2] }
  | _ => none }
def BitsSizeWrongFalsely : Prop := bitsSizeRow.holds Try.pinned (OpenSpec.ofChange bitsSizeWrong)

/-- 'marquetrylaw01.BitsAll': WHATEVER THE INPUT: true; the input reads as it did. -/
def bitsAllSpec : ChangeSpec := { name := "bitsAll", fn := fun _ => fun
  | [d1, d2] => { results := [.lit (.bool true)], args := [d1, d2] }
  | _ => none }
def bitsAllRow : OpenClaim := { program := "ytgdlbfkblopoeaa", sum := "5917d0dabc5abdc9c9a8a9d3fcff20d9bb4647df9b6814e2c3d438e05fc36557", func := "marquetry/marquetrylaw01.BitsAll", spec := "bitsAll", unfollowed := true, recurses := true, apart := false }
def BitsAllSaid : Prop := bitsAllRow.holds Try.pinned (OpenSpec.ofChange bitsAllSpec)

/-- ITS FALSE NEIGHBOUR: 'it returns false'. Refute it at one input. -/
def bitsAllWrong : ChangeSpec := { name := "bitsAll", fn := fun _ => fun
  | [d1, d2] => { results := [.lit (.bool false)], args := [d1, d2] }
  | _ => none }
def BitsAllWrongFalsely : Prop := bitsAllRow.holds Try.pinned (OpenSpec.ofChange bitsAllWrong)

/-- 'marquetrylaw01.BitsLittle': WHATEVER THE INPUT: true; the input reads as it did. -/
def bitsLittleSpec : ChangeSpec := { name := "bitsLittle", fn := fun _ => fun
  | [d] => { results := [.lit (.bool true)], args := [d] }
  | _ => none }
def bitsLittleRow : OpenClaim := { program := "ytgdlbfkblopoeaa", sum := "5917d0dabc5abdc9c9a8a9d3fcff20d9bb4647df9b6814e2c3d438e05fc36557", func := "marquetry/marquetrylaw01.BitsLittle", spec := "bitsLittle", apart := false }
def BitsLittleSaid : Prop := bitsLittleRow.holds Try.pinned (OpenSpec.ofChange bitsLittleSpec)

/-- ITS FALSE NEIGHBOUR: 'it returns false'. Refute it at one input. -/
def bitsLittleWrong : ChangeSpec := { name := "bitsLittle", fn := fun _ => fun
  | [d] => { results := [.lit (.bool false)], args := [d] }
  | _ => none }
def BitsLittleWrongFalsely : Prop := bitsLittleRow.holds Try.pinned (OpenSpec.ofChange bitsLittleWrong)

/-- 'marquetrylaw01.BitsVarintBack': WHATEVER THE INPUT: true; the input reads as it did. -/
def bitsVarintBackSpec : ChangeSpec := { name := "bitsVarintBack", fn := fun _ => fun
  | [d1, d2, d3] => { results := [.lit (.bool true)], args := [d1, d2, d3] }
  | _ => none }
def bitsVarintBackRow : OpenClaim := { program := "ytgdlbfkblopoeaa", sum := "5917d0dabc5abdc9c9a8a9d3fcff20d9bb4647df9b6814e2c3d438e05fc36557", func := "marquetry/marquetrylaw01.BitsVarintBack", spec := "bitsVarintBack", unfollowed := true, recurses := true, apart := false }
def BitsVarintBackSaid : Prop := bitsVarintBackRow.holds Try.pinned (OpenSpec.ofChange bitsVarintBackSpec)

/-- ITS FALSE NEIGHBOUR: 'it returns false'. Refute it at one input. -/
def bitsVarintBackWrong : ChangeSpec := { name := "bitsVarintBack", fn := fun _ => fun
  | [d1, d2, d3] => { results := [.lit (.bool false)], args := [d1, d2, d3] }
  | _ => none }
def BitsVarintBackWrongFalsely : Prop := bitsVarintBackRow.holds Try.pinned (OpenSpec.ofChange bitsVarintBackWrong)

/-- 'marquetrylaw01.BitsPack': WHATEVER THE INPUT: true; the input reads as it did. -/
def bitsPackSpec : ChangeSpec := { name := "bitsPack", fn := fun _ => fun
  | [d1, d2] => { results := [.lit (.bool true)], args := [d1, d2] }
  | _ => none }
def bitsPackRow : OpenClaim := { program := "ytgdlbfkblopoeaa", sum := "5917d0dabc5abdc9c9a8a9d3fcff20d9bb4647df9b6814e2c3d438e05fc36557", func := "marquetry/marquetrylaw01.BitsPack", spec := "bitsPack", apart := false }
def BitsPackSaid : Prop := bitsPackRow.holds Try.pinned (OpenSpec.ofChange bitsPackSpec)

/-- ITS FALSE NEIGHBOUR: 'it returns false'. Refute it at one input. -/
def bitsPackWrong : ChangeSpec := { name := "bitsPack", fn := fun _ => fun
  | [d1, d2] => { results := [.lit (.bool false)], args := [d1, d2] }
  | _ => none }
def BitsPackWrongFalsely : Prop := bitsPackRow.holds Try.pinned (OpenSpec.ofChange bitsPackWrong)

/-- 'marquetrylaw01.BitsUnpack': WHATEVER THE INPUT: true; the input reads as it did. -/
def bitsUnpackSpec : ChangeSpec := { name := "bitsUnpack", fn := fun _ => fun
  | [d1, d2, d3] => { results := [.lit (.bool true)], args := [d1, d2, d3] }
  | _ => none }
def bitsUnpackRow : OpenClaim := { program := "ytgdlbfkblopoeaa", sum := "5917d0dabc5abdc9c9a8a9d3fcff20d9bb4647df9b6814e2c3d438e05fc36557", func := "marquetry/marquetrylaw01.BitsUnpack", spec := "bitsUnpack", unfollowed := true, recurses := true, apart := false }
def BitsUnpackSaid : Prop := bitsUnpackRow.holds Try.pinned (OpenSpec.ofChange bitsUnpackSpec)

/-- ITS FALSE NEIGHBOUR: 'it returns false'. Refute it at one input. -/
def bitsUnpackWrong : ChangeSpec := { name := "bitsUnpack", fn := fun _ => fun
  | [d1, d2, d3] => { results := [.lit (.bool false)], args := [d1, d2, d3] }
  | _ => none }
def BitsUnpackWrongFalsely : Prop := bitsUnpackRow.holds Try.pinned (OpenSpec.ofChange bitsUnpackWrong)

/-- 'marquetrylaw01.BitsPackBack': WHATEVER THE INPUT: true; the input reads as it did. -/
def bitsPackBackSpec : ChangeSpec := { name := "bitsPackBack", fn := fun _ => fun
  | [d] => { results := [.lit (.bool true)], args := [d] }
  | _ => none }
def bitsPackBackRow : OpenClaim := { program := "ytgdlbfkblopoeaa", sum := "5917d0dabc5abdc9c9a8a9d3fcff20d9bb4647df9b6814e2c3d438e05fc36557", func := "marquetry/marquetrylaw01.BitsPackBack", spec := "bitsPackBack", unfollowed := true, recurses := true, apart := false }
def BitsPackBackSaid : Prop := bitsPackBackRow.holds Try.pinned (OpenSpec.ofChange bitsPackBackSpec)

/-- ITS FALSE NEIGHBOUR: 'it returns false'. Refute it at one input. -/
def bitsPackBackWrong : ChangeSpec := { name := "bitsPackBack", fn := fun _ => fun
  | [d] => { results := [.lit (.bool false)], args := [d] }
  | _ => none }
def BitsPackBackWrongFalsely : Prop := bitsPackBackRow.holds Try.pinned (OpenSpec.ofChange bitsPackBackWrong)

/- THE SECOND FORM. 'bulk': how many values and letters a reading holds, each counted each time it is reached (what is shared counts as often as it is met; a slice's spare places count too). A statement '..UptoSaid' is the law's where the arguments, and the package variables that the reading takes, are together of bulk at most 1048576: NARROWER than '..Said'. Prove '..Said' where nothing that the law and all that it calls make is longer than what came in: it says more and counts as full. Else prove '..UptoSaid'. A law counts once. -/
mutual
def uptoBulk {H : Type} : DataW H → Nat
  | .lit (.string bytes) => bytes.length + 1
  | .lit _ => 1
  | .nil => 1
  | .ptr d => uptoBulk d + 1
  | .slice elems spare => uptoBulkAll elems + uptoBulkAll spare + 1
  | .agg parts => uptoBulkAll parts + 1
  | .iface _ d => uptoBulk d + 1
  | .map entries => uptoBulkEntries entries + 1
  | .held _ => 1
def uptoBulkAll {H : Type} : List (DataW H) → Nat
  | [] => 0
  | d :: r => uptoBulk d + uptoBulkAll r
def uptoBulkEntries {H : Type} : List (Lit × DataW H) → Nat
  | [] => 0
  | x :: r => uptoBulkEntry x + uptoBulkEntries r
def uptoBulkEntry {H : Type} : Lit × DataW H → Nat
  | (.string bytes, d) => bytes.length + uptoBulk d + 1
  | (_, d) => uptoBulk d + 1
 end
def uptoSmall : (H : Type) → List (DataW H) → Bool := fun _ ds => decide (uptoBulkAll ds ≤ 1048576)
def OpenSpec.upto (s : _root_.Go.ChangeSpec) : _root_.Go.OpenSpec := { _root_.Go.OpenSpec.ofChange s with cond := some uptoSmall }

/-- 'marquetrylaw01.BitsZigzag', WHERE WHAT IT READS IS OF BULK AT MOST 1048576: true; the input reads as it did. -/
def bitsZigzagUptoRow : OpenClaim := { program := "ytgdlbfkblopoeaa", sum := "5917d0dabc5abdc9c9a8a9d3fcff20d9bb4647df9b6814e2c3d438e05fc36557", func := "marquetry/marquetrylaw01.BitsZigzag", spec := "bitsZigzag", apart := false, narrowed := true }
def BitsZigzagUptoSaid : Prop := bitsZigzagUptoRow.holds Try.pinned (OpenSpec.upto bitsZigzagSpec)

/-- 'marquetrylaw01.BitsUnzigzag', WHERE WHAT IT READS IS OF BULK AT MOST 1048576: true; the input reads as it did. -/
def bitsUnzigzagUptoRow : OpenClaim := { program := "ytgdlbfkblopoeaa", sum := "5917d0dabc5abdc9c9a8a9d3fcff20d9bb4647df9b6814e2c3d438e05fc36557", func := "marquetry/marquetrylaw01.BitsUnzigzag", spec := "bitsUnzigzag", apart := false, narrowed := true }
def BitsUnzigzagUptoSaid : Prop := bitsUnzigzagUptoRow.holds Try.pinned (OpenSpec.upto bitsUnzigzagSpec)

/-- 'marquetrylaw01.BitsZigzagBack', WHERE WHAT IT READS IS OF BULK AT MOST 1048576: true; the input reads as it did. -/
def bitsZigzagBackUptoRow : OpenClaim := { program := "ytgdlbfkblopoeaa", sum := "5917d0dabc5abdc9c9a8a9d3fcff20d9bb4647df9b6814e2c3d438e05fc36557", func := "marquetry/marquetrylaw01.BitsZigzagBack", spec := "bitsZigzagBack", apart := false, narrowed := true }
def BitsZigzagBackUptoSaid : Prop := bitsZigzagBackUptoRow.holds Try.pinned (OpenSpec.upto bitsZigzagBackSpec)

/-- 'marquetrylaw01.BitsWidth', WHERE WHAT IT READS IS OF BULK AT MOST 1048576: true; the input reads as it did. -/
def bitsWidthUptoRow : OpenClaim := { program := "ytgdlbfkblopoeaa", sum := "5917d0dabc5abdc9c9a8a9d3fcff20d9bb4647df9b6814e2c3d438e05fc36557", func := "marquetry/marquetrylaw01.BitsWidth", spec := "bitsWidth", apart := false, narrowed := true }
def BitsWidthUptoSaid : Prop := bitsWidthUptoRow.holds Try.pinned (OpenSpec.upto bitsWidthSpec)

/-- 'marquetrylaw01.BitsVarint', WHERE WHAT IT READS IS OF BULK AT MOST 1048576: true; the input reads as it did. -/
def bitsVarintUptoRow : OpenClaim := { program := "ytgdlbfkblopoeaa", sum := "5917d0dabc5abdc9c9a8a9d3fcff20d9bb4647df9b6814e2c3d438e05fc36557", func := "marquetry/marquetrylaw01.BitsVarint", spec := "bitsVarint", apart := false, narrowed := true }
def BitsVarintUptoSaid : Prop := bitsVarintUptoRow.holds Try.pinned (OpenSpec.upto bitsVarintSpec)

/-- 'marquetrylaw01.BitsSize', WHERE WHAT IT READS IS OF BULK AT MOST 1048576: true; the input reads as it did. -/
def bitsSizeUptoRow : OpenClaim := { program := "ytgdlbfkblopoeaa", sum := "5917d0dabc5abdc9c9a8a9d3fcff20d9bb4647df9b6814e2c3d438e05fc36557", func := "marquetry/marquetrylaw01.BitsSize", spec := "bitsSize", apart := false, narrowed := true }
def BitsSizeUptoSaid : Prop := bitsSizeUptoRow.holds Try.pinned (OpenSpec.upto bitsSizeSpec)

/-- 'marquetrylaw01.BitsAll', WHERE WHAT IT READS IS OF BULK AT MOST 1048576: true; the input reads as it did. -/
def bitsAllUptoRow : OpenClaim := { program := "ytgdlbfkblopoeaa", sum := "5917d0dabc5abdc9c9a8a9d3fcff20d9bb4647df9b6814e2c3d438e05fc36557", func := "marquetry/marquetrylaw01.BitsAll", spec := "bitsAll", unfollowed := true, recurses := true, apart := false, narrowed := true }
def BitsAllUptoSaid : Prop := bitsAllUptoRow.holds Try.pinned (OpenSpec.upto bitsAllSpec)

/-- 'marquetrylaw01.BitsLittle', WHERE WHAT IT READS IS OF BULK AT MOST 1048576: true; the input reads as it did. -/
def bitsLittleUptoRow : OpenClaim := { program := "ytgdlbfkblopoeaa", sum := "5917d0dabc5abdc9c9a8a9d3fcff20d9bb4647df9b6814e2c3d438e05fc36557", func := "marquetry/marquetrylaw01.BitsLittle", spec := "bitsLittle", apart := false, narrowed := true }
def BitsLittleUptoSaid : Prop := bitsLittleUptoRow.holds Try.pinned (OpenSpec.upto bitsLittleSpec)

/-- 'marquetrylaw01.BitsVarintBack', WHERE WHAT IT READS IS OF BULK AT MOST 1048576: true; the input reads as it did. -/
def bitsVarintBackUptoRow : OpenClaim := { program := "ytgdlbfkblopoeaa", sum := "5917d0dabc5abdc9c9a8a9d3fcff20d9bb4647df9b6814e2c3d438e05fc36557", func := "marquetry/marquetrylaw01.BitsVarintBack", spec := "bitsVarintBack", unfollowed := true, recurses := true, apart := false, narrowed := true }
def BitsVarintBackUptoSaid : Prop := bitsVarintBackUptoRow.holds Try.pinned (OpenSpec.upto bitsVarintBackSpec)

/-- 'marquetrylaw01.BitsPack', WHERE WHAT IT READS IS OF BULK AT MOST 1048576: true; the input reads as it did. -/
def bitsPackUptoRow : OpenClaim := { program := "ytgdlbfkblopoeaa", sum := "5917d0dabc5abdc9c9a8a9d3fcff20d9bb4647df9b6814e2c3d438e05fc36557", func := "marquetry/marquetrylaw01.BitsPack", spec := "bitsPack", apart := false, narrowed := true }
def BitsPackUptoSaid : Prop := bitsPackUptoRow.holds Try.pinned (OpenSpec.upto bitsPackSpec)

/-- 'marquetrylaw01.BitsUnpack', WHERE WHAT IT READS IS OF BULK AT MOST 1048576: true; the input reads as it did. -/
def bitsUnpackUptoRow : OpenClaim := { program := "ytgdlbfkblopoeaa", sum := "5917d0dabc5abdc9c9a8a9d3fcff20d9bb4647df9b6814e2c3d438e05fc36557", func := "marquetry/marquetrylaw01.BitsUnpack", spec := "bitsUnpack", unfollowed := true, recurses := true, apart := false, narrowed := true }
def BitsUnpackUptoSaid : Prop := bitsUnpackUptoRow.holds Try.pinned (OpenSpec.upto bitsUnpackSpec)

/-- 'marquetrylaw01.BitsPackBack', WHERE WHAT IT READS IS OF BULK AT MOST 1048576: true; the input reads as it did. -/
def bitsPackBackUptoRow : OpenClaim := { program := "ytgdlbfkblopoeaa", sum := "5917d0dabc5abdc9c9a8a9d3fcff20d9bb4647df9b6814e2c3d438e05fc36557", func := "marquetry/marquetrylaw01.BitsPackBack", spec := "bitsPackBack", unfollowed := true, recurses := true, apart := false, narrowed := true }
def BitsPackBackUptoSaid : Prop := bitsPackBackUptoRow.holds Try.pinned (OpenSpec.upto bitsPackBackSpec)

end Rows
end Go.Proofs.Ytgdlbfkblopoeaa
