/- BitsVarintBack: for every number and all bytes ahead and behind, the varint is read as the number that it was made of. No condition. -/
import Derived.Test.YtgdlbfkblopoeaaX7
import Derived.Test.YtgdlbfkblopoeaaL1v
namespace Go.Proofs.Ytgdlbfkblopoeaa.Pure
open Go.RowKit Go.Proofs.Ytgdlbfkblopoeaa.X Go.Proofs.YtgdlbfkblopoeaaW.PrintWords Go.Proofs.YtgdlbfkblopoeaaW.PrintLast Go.Proofs.YtgdlbfkblopoeaaW.PrintMore Go.Proofs.Ytgdlbfkblopoeaa.Bx Go.Proofs.Ytgdlbfkblopoeaa.Nx Go.Proofs.Ytgdlbfkblopoeaa.L1

theorem BitsVarintBack : marquetrylaw01_BitsVarintBack.Pure := by
  intro n a b hn _ _
  obtain ⟨n0, n1⟩ := wf_u64 hn
  refine ⟨20, ?_⟩
  unfold marquetrylaw01_BitsVarintBack.f
  simp only [marquetrylaw01_BitsVarintBack.j0]
  by_cases c : (a.length : Int) > 2000
  · rw [if_pos c]; rfl
  rw [if_neg c]
  by_cases d : (b.length : Int) > 2000
  · rw [if_pos (by simpa using d)]
  have hl := vb_length64 (n := n.toNat) (by omega)
  rw [if_neg (by simpa using d), varint (by omega) n0 n1, Option.bind_some]
  simp only [List.nil_append, Option.bind_some, List.length_nil, List.append_assoc]
  rw [if_pos (by omega), if_pos (by omega), if_pos (by rw [List.length_append]; omega), readVarint_back (by omega) (by omega), Option.bind_some]
  rw [if_pos (show ((n.toNat : Int)) = n by omega), if_pos (by rw [w64 (by omega) (by omega)])]
  rfl

end Go.Proofs.Ytgdlbfkblopoeaa.Pure
