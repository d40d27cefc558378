/- DeltaWrites: of every list the bytes that the program writes are those of the reference; what is handed in stays. No condition. -/
import Derived.Test.YtbncfhmfohpfbaaGDeltaWrites4
namespace Go.Proofs.Ytbncfhmfohpfbaa.Pure
open Go.RowKit Go.Proofs.Ytbncfhmfohpfbaa.X Go.Proofs.YtbncfhmfohpfbaaW.PrintWords Go.Proofs.YtbncfhmfohpfbaaW.PrintLast Go.Proofs.YtbncfhmfohpfbaaW.PrintMore Go.Proofs.Ytbncfhmfohpfbaa.Bx

theorem DeltaWrites : marquetrylaw13_DeltaWrites.Pure := by
  rintro l0 ⟨h, _, _⟩
  unfold marquetrylaw13_DeltaWrites.f
  rw [if_pos (i64All_iff.2 (fun x hx => wf_i64 (h x hx)))]
end Go.Proofs.Ytbncfhmfohpfbaa.Pure
