/- PlainWrite: for any type and all values, the program's bytes, their number and its refusals are the reference's, and what is handed in stays. No condition. -/
import Derived.Test.YtcklkngljapecaaGPlainWrite3
import Derived.Test.YtcklkngljapecaaGPlainWrite5
namespace Go.Proofs.Ytcklkngljapecaa.Pure
open Go.RowKit Go.Proofs.Ytcklkngljapecaa.X Go.Proofs.YtcklkngljapecaaW.PrintWords Go.Proofs.YtcklkngljapecaaW.PrintLast Go.Proofs.YtcklkngljapecaaW.PrintMore Go.Proofs.Ytcklkngljapecaa.Bx Go.Proofs.Ytcklkngljapecaa.Nx Go.Proofs.Ytcklkngljapecaa.L1 Go.Proofs.Ytcklkngljapecaa.L10

theorem PlainWrite : marquetrylaw10_PlainWrite.Pure := by
  intro k s l hk _ hl
  refine ⟨1100000, ?_⟩
  unfold marquetrylaw10_PlainWrite.f
  obtain ⟨b, hb, hL⟩ := heavy (K := 1100000) (k := k) (s := s) (l := l) (by omega) (fun x hx => (hl.1 x hx).2.2)
  rw [hb, Option.bind_some]
  cases b with
  | true => rw [if_pos rfl]
  | false =>
    have hL := hL rfl
    have hlen := hL.1
    obtain ⟨e1, e2⟩ := write_size (k := k) hL
    rw [if_neg (by simp), if_pos (by simp; omega), Option.bind_some, List.nil_append, write (by omega) hk (fun x hx => (hl.1 x hx).1) hL, Option.bind_some, size_s hk (fun x hx => (hl.1 x hx).1) hL, Option.bind_some,
      ref_write (by omega) (fun x hx => (hl.1 x hx).2.1) hL, Option.bind_some, if_pos rfl, if_pos rfl, if_pos e1, if_pos e2, same (by omega) (by omega)]
    rfl
end Go.Proofs.Ytcklkngljapecaa.Pure
