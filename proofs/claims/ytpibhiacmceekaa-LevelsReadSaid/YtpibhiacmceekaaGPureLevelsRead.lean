/- LevelsRead: for every bytes, greatest level and count the program's levels are the reference's, or both refuse alike. No condition. -/
import Derived.Test.YtpibhiacmceekaaGLevelsRead2
import Derived.Test.YtpibhiacmceekaaGLevelsRead3
import Derived.Test.YtpibhiacmceekaaGLevelsRead4
namespace Go.Proofs.Ytpibhiacmceekaa.Pure
open Go.RowKit Go.Proofs.Ytpibhiacmceekaa.X Go.Proofs.YtpibhiacmceekaaW.PrintWords Go.Proofs.YtpibhiacmceekaaW.PrintLast Go.Proofs.YtpibhiacmceekaaW.PrintMore Go.Proofs.Ytpibhiacmceekaa.Bx Go.Proofs.Ytpibhiacmceekaa.Nx Go.Proofs.Ytpibhiacmceekaa.L1 Go.Proofs.Ytpibhiacmceekaa.L11

theorem LevReadR_len {b : List Int} (hb : ∀ x ∈ b, 0 ≤ x ∧ x ≤ 255) (m n : Int) : (LevReadR b m n).1.length ≤ 65536 := by
  have h := ReadR_len hb ((wd m.toNat : Nat) : Int) n
  unfold LevReadR
  split
  · simp
  split
  · simp
  split
  · simp
  split
  · simp
  split
  · simp
  split
  · split
    · simp
    · simp; omega
  split
  · split
    · simp
    · exact h
  · simp
theorem LevelsRead : marquetrylaw20_LevelsRead.Pure := by
  intro b m n hb hm hn
  have hb' : ∀ x ∈ b, 0 ≤ x ∧ x ≤ 255 := fun x h => wf_u8 (hb.1 x h)
  refine ⟨200000020, ?_⟩
  unfold marquetrylaw20_LevelsRead.f
  by_cases c : (b.length : Int) > 2000
  · rw [if_pos c, marquetrylaw20_LevelsRead.j0, if_pos rfl]
  rw [if_neg c]
  by_cases d : n > 4000
  · rw [decide_eq_true d, marquetrylaw20_LevelsRead.j0, if_pos rfl]
  have hlen := LevReadR_len hb' m n
  rw [decide_eq_false d, marquetrylaw20_LevelsRead.j0, if_neg (by decide), lev_read hb' (by omega), Option.bind_some, ref_lev_read hb' (by omega) (by omega), Option.bind_some, sameInts (by omega) (by omega), Option.bind_some, if_pos (by simp)]
  simp
end Go.Proofs.Ytpibhiacmceekaa.Pure
