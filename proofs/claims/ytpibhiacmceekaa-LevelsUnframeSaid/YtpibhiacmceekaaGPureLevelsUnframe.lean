/- LevelsUnframe: for every bytes, greatest level and count the program's levels off the front of bytes, and how many bytes they have, are the reference's, or both refuse alike. No condition. -/
import Derived.Test.YtpibhiacmceekaaGLevelsUnframe3
import Derived.Test.YtpibhiacmceekaaGLevelsUnframe4
namespace Go.Proofs.Ytpibhiacmceekaa.Pure
open Go.RowKit Go.Proofs.Ytpibhiacmceekaa.X Go.Proofs.YtpibhiacmceekaaW.PrintWords Go.Proofs.YtpibhiacmceekaaW.PrintLast Go.Proofs.YtpibhiacmceekaaW.PrintMore Go.Proofs.Ytpibhiacmceekaa.Bx Go.Proofs.Ytpibhiacmceekaa.Nx Go.Proofs.Ytpibhiacmceekaa.L1 Go.Proofs.Ytpibhiacmceekaa.L11

theorem UnframeR_len {b : List Int} (hb : ∀ x ∈ b, 0 ≤ x ∧ x ≤ 255) (m n : Int) : (UnframeR b m n).1.length ≤ 65536 := by
  unfold UnframeR
  split
  · simp
  split
  · simp
  split
  · simp
  split
  · simp
  split
  · simp
  split
  · simp; omega
  split
  · simp
  split
  · simp
  split
  · exact LevReadR_len (fun x h => hb x (mid_mem h)) m n
  · simp
theorem LevelsUnframe : marquetrylaw20_LevelsUnframe.Pure := by
  intro b m n hb hm hn
  have hb' : ∀ x ∈ b, 0 ≤ x ∧ x ≤ 255 := fun x h => wf_u8 (hb.1 x h)
  refine ⟨200000200, ?_⟩
  unfold marquetrylaw20_LevelsUnframe.f
  by_cases c : (b.length : Int) > 2000
  · rw [if_pos c, marquetrylaw20_LevelsUnframe.j0, if_pos rfl]
  rw [if_neg c]
  by_cases d : n > 4000
  · rw [decide_eq_true d, marquetrylaw20_LevelsUnframe.j0, if_pos rfl]
  have hlen := UnframeR_len hb' m n
  rw [decide_eq_false d, marquetrylaw20_LevelsUnframe.j0, if_neg (by decide), unframe hb' (by omega) (by omega), Option.bind_some, ref_unframe hb' (by omega) (by omega), Option.bind_some, sameInts (by omega) (by omega), Option.bind_some, if_pos (by simp), if_pos rfl]
  simp
end Go.Proofs.Ytpibhiacmceekaa.Pure
