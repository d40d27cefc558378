/- DeltaAgain: of every bytes what is read is written in the bytes that were taken. No condition. -/
import Derived.Test.YtbncfhmfohpfbaaGDeltaAgain3
namespace Go.Proofs.Ytbncfhmfohpfbaa.Pure
open Go.RowKit Go.Proofs.Ytbncfhmfohpfbaa.X Go.Proofs.YtbncfhmfohpfbaaW.PrintWords Go.Proofs.YtbncfhmfohpfbaaW.PrintLast Go.Proofs.YtbncfhmfohpfbaaW.PrintMore Go.Proofs.Ytbncfhmfohpfbaa.Bx

theorem DeltaAgain : marquetrylaw13_DeltaAgain.Pure := by
  rintro l0 ⟨h, _, _⟩
  unfold marquetrylaw13_DeltaAgain.f
  rw [if_pos (u8All_iff.2 (fun x hx => wf_u8 (h x hx)))]
end Go.Proofs.Ytbncfhmfohpfbaa.Pure
