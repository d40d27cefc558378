/- PlainRead: for all bytes, any type and any count, the program's values and refusals are the reference's. No condition. -/
import Derived.Test.YtcklkngljapecaaGPlainRead2
import Derived.Test.YtcklkngljapecaaGPlainRead3
namespace Go.Proofs.Ytcklkngljapecaa.Pure
open Go.RowKit Go.Proofs.Ytcklkngljapecaa.X Go.Proofs.YtcklkngljapecaaW.PrintWords Go.Proofs.YtcklkngljapecaaW.PrintLast Go.Proofs.YtcklkngljapecaaW.PrintMore Go.Proofs.Ytcklkngljapecaa.Bx Go.Proofs.Ytcklkngljapecaa.Nx Go.Proofs.Ytcklkngljapecaa.L1 Go.Proofs.Ytcklkngljapecaa.L10

theorem PlainRead : marquetrylaw10_PlainRead.Pure := by
  intro l k s n hl hk _ _
  have hb : ∀ x ∈ l, 0 ≤ x ∧ x ≤ 255 := fun x hx => wf_u8 (hl.1 x hx)
  refine ⟨100100000, ?_⟩
  unfold marquetrylaw10_PlainRead.f
  by_cases c : (l.length : Int) > 3000
  · rw [if_pos c]
  · rw [if_neg c, read (by omega) hb hk, Option.bind_some, ref_read (by omega) hb (by omega), Option.bind_some, same (by have := ReadS_len (l := l) (k := k) (s := s) (n := n); omega) (by omega), Option.bind_some, if_pos rfl]
    simp
end Go.Proofs.Ytcklkngljapecaa.Pure
