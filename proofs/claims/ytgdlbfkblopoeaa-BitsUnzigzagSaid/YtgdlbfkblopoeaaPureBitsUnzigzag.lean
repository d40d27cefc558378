/- BitsUnzigzag: for every number the program's unzigzag is the reference's. No condition. -/
import Derived.Test.YtgdlbfkblopoeaaPBitsUnzigzagx1
import Derived.Test.YtgdlbfkblopoeaaBx
namespace Go.Proofs.Ytgdlbfkblopoeaa.Pure
open Go.RowKit Go.Proofs.Ytgdlbfkblopoeaa.PBitsUnzigzag Go.Proofs.YtgdlbfkblopoeaaW.PrintWords Go.Proofs.YtgdlbfkblopoeaaW.PrintLast Go.Proofs.Ytgdlbfkblopoeaa.Bx

theorem unzig (a : Int) (h : 0 ≤ a) (h' : a ≤ 18446744073709551615) :
    bits_Unzigzag.f a = some (if a % 2 = 0 then a / 2 else - (a / 2) - 1) := by
  unfold bits_Unzigzag.f
  rw [and_one_u64 a h h']
  by_cases c : a % 2 = 0
  · rw [if_pos c, c, show wrap64 (-(wrap64 0)) = 0 by simp [wrap64], xor_zero_i64]
    congr 1; unfold wrap64; omega
  · rw [if_neg c, show a % 2 = 1 by omega, show wrap64 (-(wrap64 1)) = -1 by simp [wrap64], xor_ones_i64]
    congr 1; unfold wrap64; omega
theorem BitsUnzigzag : marquetrylaw01_BitsUnzigzag.Pure := by
  intro a ha
  obtain ⟨h, h'⟩ := wf_u64 ha
  unfold marquetrylaw01_BitsUnzigzag.f
  rw [unzig a h h']
  unfold marquetryref01_Unzigzag.f
  have e : Int.tmod a 2 = a % 2 := Int.tmod_eq_emod_of_nonneg h
  rw [e, u64_tdiv 2 h h' (by omega)]
  by_cases c : a % 2 = 0
  · rw [if_pos c, if_pos c]
    simp only [Option.bind_some, Option.some.injEq, beq_iff_eq]; unfold wrap64; omega
  · rw [if_neg c, if_neg c]
    simp only [Option.bind_some, Option.some.injEq, beq_iff_eq]
    unfold wrap64; omega

end Go.Proofs.Ytgdlbfkblopoeaa.Pure
