/- BitsZigzagBack: zigzag and unzigzag, one behind the other, are the number, both ways. No condition. -/
import Derived.Test.YtgdlbfkblopoeaaPBitsZigzagBackx1
import Derived.Test.YtgdlbfkblopoeaaBx
namespace Go.Proofs.Ytgdlbfkblopoeaa.Pure
open Go.RowKit Go.Proofs.Ytgdlbfkblopoeaa.PBitsZigzagBack Go.Proofs.YtgdlbfkblopoeaaW.PrintWords Go.Proofs.YtgdlbfkblopoeaaW.PrintLast Go.Proofs.Ytgdlbfkblopoeaa.Bx

theorem zig (a : Int) (h : -9223372036854775808 ≤ a) (h' : a ≤ 9223372036854775807) :
    bits_Zigzag.f a = some (if 0 ≤ a then 2 * a else -2 * a - 1) := by
  unfold bits_Zigzag.f
  by_cases c : 0 ≤ a
  · rw [if_pos c, show a / 9223372036854775808 = 0 by omega, show IntKind.u64.wrap 0 = 0 by rfl, xor_zero_u64, u64w, u64w]
    congr 1; omega
  · rw [if_neg c, show a / 9223372036854775808 = -1 by omega, show IntKind.u64.wrap (-1) = 18446744073709551615 by rfl, xor_ones_u64, u64w, u64w]
    congr 1; omega
theorem unzig (a : Int) (h : 0 ≤ a) (h' : a ≤ 18446744073709551615) :
    bits_Unzigzag.f a = some (if a % 2 = 0 then a / 2 else - (a / 2) - 1) := by
  unfold bits_Unzigzag.f
  rw [and_one_u64 a h h']
  by_cases c : a % 2 = 0
  · rw [if_pos c, c, show wrap64 (-(wrap64 0)) = 0 by simp [wrap64], xor_zero_i64]
    congr 1; unfold wrap64; omega
  · rw [if_neg c, show a % 2 = 1 by omega, show wrap64 (-(wrap64 1)) = -1 by simp [wrap64], xor_ones_i64]
    congr 1; unfold wrap64; omega
theorem BitsZigzagBack : marquetrylaw01_BitsZigzagBack.Pure := by
  intro a b ha hb
  obtain ⟨h, h'⟩ := wf_i64 ha
  obtain ⟨g, g'⟩ := wf_u64 hb
  unfold marquetrylaw01_BitsZigzagBack.f
  rw [zig a h h', Option.bind_some, unzig _ (by split <;> omega) (by split <;> omega), Option.bind_some]
  rw [if_pos (by split <;> split <;> omega)]
  rw [unzig b g g', Option.bind_some, zig _ (by split <;> omega) (by split <;> omega), Option.bind_some]
  congr 1
  rw [beq_iff_eq]
  split <;> split <;> omega

end Go.Proofs.Ytgdlbfkblopoeaa.Pure
