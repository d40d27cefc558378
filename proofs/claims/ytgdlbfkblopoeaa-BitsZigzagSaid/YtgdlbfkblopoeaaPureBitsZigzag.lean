/- BitsZigzag: for every number the program's zigzag is the reference's. No condition. -/
import Derived.Test.YtgdlbfkblopoeaaPBitsZigzagx1
import Derived.Test.YtgdlbfkblopoeaaBx
namespace Go.Proofs.Ytgdlbfkblopoeaa.Pure
open Go.RowKit Go.Proofs.Ytgdlbfkblopoeaa.PBitsZigzag Go.Proofs.YtgdlbfkblopoeaaW.PrintWords Go.Proofs.YtgdlbfkblopoeaaW.PrintLast Go.Proofs.Ytgdlbfkblopoeaa.Bx

theorem zig (a : Int) (h : -9223372036854775808 ≤ a) (h' : a ≤ 9223372036854775807) :
    bits_Zigzag.f a = some (if 0 ≤ a then 2 * a else -2 * a - 1) := by
  unfold bits_Zigzag.f
  by_cases c : 0 ≤ a
  · rw [if_pos c, show a / 9223372036854775808 = 0 by omega, show IntKind.u64.wrap 0 = 0 by rfl, xor_zero_u64, u64w, u64w]
    congr 1; omega
  · rw [if_neg c, show a / 9223372036854775808 = -1 by omega, show IntKind.u64.wrap (-1) = 18446744073709551615 by rfl, xor_ones_u64, u64w, u64w]
    congr 1; omega
theorem BitsZigzag : marquetrylaw01_BitsZigzag.Pure := by
  intro a ha
  obtain ⟨h, h'⟩ := wf_i64 ha
  unfold marquetrylaw01_BitsZigzag.f
  rw [zig a h h']
  unfold marquetryref01_Zigzag.f
  by_cases c : 0 ≤ a
  · rw [if_pos c, if_pos c]
    simp only [u64w, Option.bind_some, Option.some.injEq, beq_iff_eq]; omega
  · rw [if_neg c, if_neg c]
    simp only [u64w, Option.bind_some, Option.some.injEq, beq_iff_eq]
    unfold wrap64; omega

end Go.Proofs.Ytgdlbfkblopoeaa.Pure
