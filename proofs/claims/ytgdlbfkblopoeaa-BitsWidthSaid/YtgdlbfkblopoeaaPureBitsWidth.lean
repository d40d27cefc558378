/- BitsWidth: for every number the program's width is the reference's. No condition. -/
import Derived.Test.YtgdlbfkblopoeaaPBitsWidthx1
import Derived.Test.YtgdlbfkblopoeaaBx
namespace Go.Proofs.Ytgdlbfkblopoeaa.Pure
open Go.RowKit Go.Proofs.Ytgdlbfkblopoeaa.PBitsWidth Go.Proofs.YtgdlbfkblopoeaaW.PrintWords Go.Proofs.YtgdlbfkblopoeaaW.PrintLast Go.Proofs.Ytgdlbfkblopoeaa.Bx

theorem both : ∀ (k : Nat) (x y : Int), 0 ≤ x → x ≤ 18446744073709551615 → bits_Width.l0 k x y = marquetryref01_Width.l0 k x y := by
  intro k
  induction k with
  | zero => intros; rfl
  | succ k ih =>
    intro x y h0 h1
    simp only [bits_Width.l0, marquetryref01_Width.l0]
    rw [u64_tdiv 2 h0 h1 (by omega)]
    by_cases c : x > 0
    · rw [if_pos c, if_pos c]; exact ih _ _ (by omega) (by omega)
    · rw [if_neg c, if_neg c]
theorem ends : ∀ (d : Nat) (x y : Int), 0 ≤ x → x < 2 ^ d → ∃ r, bits_Width.l0 (d + 1) x y = some r := by
  intro d
  induction d with
  | zero => intro x y h0 h1; exact ⟨y, by simp only [bits_Width.l0]; rw [if_neg (by simp at h1; omega)]⟩
  | succ d ih =>
    intro x y h0 h1
    by_cases c : x > 0
    · obtain ⟨r, hr⟩ := ih (x / 2) (wrap64 (y + 1)) (by omega) (by rw [Int.pow_succ] at h1; omega)
      exact ⟨r, by rw [bits_Width.l0, if_pos c]; exact hr⟩
    · exact ⟨y, by rw [bits_Width.l0, if_neg c]⟩
theorem BitsWidth : marquetrylaw01_BitsWidth.Pure := by
  intro a ha
  obtain ⟨h, h'⟩ := wf_u64 ha
  obtain ⟨r, hr⟩ := ends 64 a 0 h (by omega)
  refine ⟨65, ?_⟩
  unfold marquetrylaw01_BitsWidth.f bits_Width.f marquetryref01_Width.f
  rw [← both 65 a 0 h h', hr]
  simp

end Go.Proofs.Ytgdlbfkblopoeaa.Pure
