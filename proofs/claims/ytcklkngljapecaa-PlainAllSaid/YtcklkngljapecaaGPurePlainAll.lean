/- PlainAll: for all bytes, any type and any place to leave, the values are gone over as the reference tells them. No condition. -/
import Derived.Test.YtcklkngljapecaaGPlainAll3
namespace Go.Proofs.Ytcklkngljapecaa.Pure
open Go.RowKit Go.Proofs.Ytcklkngljapecaa.X Go.Proofs.YtcklkngljapecaaW.PrintWords Go.Proofs.YtcklkngljapecaaW.PrintLast Go.Proofs.YtcklkngljapecaaW.PrintMore Go.Proofs.Ytcklkngljapecaa.Bx

theorem PlainAll : marquetrylaw10_PlainAll.Pure := by
  intro l k s n hl hk _ _
  refine ⟨30, ?_⟩
  unfold marquetrylaw10_PlainAll.f
  by_cases c : (l.length : Int) > 500
  · rw [if_pos c]
  · rw [if_neg c, if_pos ⟨Nat.le_refl _, fun x hx => wf_u8 (hl.1 x hx), hk⟩]
end Go.Proofs.Ytcklkngljapecaa.Pure
