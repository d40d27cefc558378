/- LevelsWrite: for every greatest level and levels the program's bytes, with and without their length, are the reference's, or both refuse alike. No condition. -/
import Derived.Test.YtpibhiacmceekaaX19
import Derived.Test.YtpibhiacmceekaaL20
namespace Go.Proofs.Ytpibhiacmceekaa.Pure
open Go.RowKit Go.Proofs.Ytpibhiacmceekaa.X Go.Proofs.YtpibhiacmceekaaW.PrintWords Go.Proofs.YtpibhiacmceekaaW.PrintLast Go.Proofs.YtpibhiacmceekaaW.PrintMore Go.Proofs.Ytpibhiacmceekaa.Bx Go.Proofs.Ytpibhiacmceekaa.Nx Go.Proofs.Ytpibhiacmceekaa.L1 Go.Proofs.Ytpibhiacmceekaa.L11

theorem LevelsWrite : marquetrylaw20_LevelsWrite.Pure := by
  intro m l hm hl
  have hx : ∀ x ∈ l, -9223372036854775808 ≤ x ∧ x ≤ 9223372036854775807 := fun x h => wf_i64 (hl.1 x h)
  refine ⟨100000, ?_⟩
  unfold marquetrylaw20_LevelsWrite.f
  by_cases c : (l.length : Int) > 400
  · rw [if_pos c]
  rw [if_neg c, levels_write (by omega) (by omega) hx, Option.bind_some, ref_levels (by omega) (by omega) hx, Option.bind_some, framed (by omega) (by omega) hx, Option.bind_some, ref_framed (by omega) (by omega) hx, Option.bind_some, if_pos rfl, if_pos rfl, if_pos rfl]
  simp
end Go.Proofs.Ytpibhiacmceekaa.Pure
