/- BitsSize: for every width and count the program's size is the reference's. No condition. -/
import Derived.Test.YtgdlbfkblopoeaaPBitsSizex1
import Derived.Test.YtgdlbfkblopoeaaBx
namespace Go.Proofs.Ytgdlbfkblopoeaa.Pure
open Go.RowKit Go.Proofs.Ytgdlbfkblopoeaa.PBitsSize Go.Proofs.YtgdlbfkblopoeaaW.PrintWords Go.Proofs.YtgdlbfkblopoeaaW.PrintLast Go.Proofs.Ytgdlbfkblopoeaa.Bx

theorem BitsSize : marquetrylaw01_BitsSize.Pure := by
  intro a b _ _
  have j : ∀ k x y z, bits_Size.j0 k x y z = marquetryref01_Size.j0 k x y z := by
    intro k; cases k <;> intros <;> rfl
  have t : ∀ x y z, ∃ r, bits_Size.j0 1 x y z = some r := by
    intro x y z
    simp only [bits_Size.j0]
    repeat' (first | exact ⟨_, rfl⟩ | split)
  have e : bits_Size.f 1 a b = marquetryref01_Size.f 1 a b := by
    unfold bits_Size.f marquetryref01_Size.f; simp only [j]
  have u : ∃ r, bits_Size.f 1 a b = some r := by
    unfold bits_Size.f
    repeat' (first | exact t _ _ _ | split)
  obtain ⟨r, hr⟩ := u
  refine ⟨1, ?_⟩
  unfold marquetrylaw01_BitsSize.f
  rw [← e, hr]
  simp

end Go.Proofs.Ytgdlbfkblopoeaa.Pure
