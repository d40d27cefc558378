/- HybridWrite: for every width and numbers the program's bytes are the reference's, run by run, or both refuse alike; the numbers stay. No condition. -/
import Derived.Test.YtpibhiacmceekaaX15
import Derived.Test.YtpibhiacmceekaaL11x
namespace Go.Proofs.Ytpibhiacmceekaa.Pure
open Go.RowKit Go.Proofs.Ytpibhiacmceekaa.X Go.Proofs.YtpibhiacmceekaaW.PrintWords Go.Proofs.YtpibhiacmceekaaW.PrintLast Go.Proofs.YtpibhiacmceekaaW.PrintMore Go.Proofs.Ytpibhiacmceekaa.Bx Go.Proofs.Ytpibhiacmceekaa.Nx Go.Proofs.Ytpibhiacmceekaa.L1 Go.Proofs.Ytpibhiacmceekaa.L11

theorem HybridWrite : marquetrylaw11_HybridWrite.Pure := by
  intro w l hw hl
  have hx : ∀ x ∈ l, -9223372036854775808 ≤ x ∧ x ≤ 9223372036854775807 := fun x h => wf_i64 (hl.1 x h)
  refine ⟨100000, ?_⟩
  unfold marquetrylaw11_HybridWrite.f
  by_cases c : (l.length : Int) > 400
  · rw [if_pos c]
  rw [if_neg c, if_pos (by simp; omega), Option.bind_some, List.nil_append, write (by omega) (by omega) hx, Option.bind_some, ref_write (by omega) (by omega) hx, Option.bind_some, if_pos rfl, if_pos rfl, sameInts (by omega) (by omega)]
  simp
end Go.Proofs.Ytpibhiacmceekaa.Pure
