/- DeltaReads: of all bytes and counts the program tells which list they are, or what is wrong, as the reference does; what is handed in stays. No condition. -/
import Derived.Test.YtbncfhmfohpfbaaGDeltaReads5
import Derived.Test.YtbncfhmfohpfbaaGDeltaReads4
namespace Go.Proofs.Ytbncfhmfohpfbaa.Pure
open Go.RowKit Go.Proofs.Ytbncfhmfohpfbaa.X Go.Proofs.YtbncfhmfohpfbaaW.PrintWords Go.Proofs.YtbncfhmfohpfbaaW.PrintLast Go.Proofs.YtbncfhmfohpfbaaW.PrintMore Go.Proofs.Ytbncfhmfohpfbaa.Bx

theorem DeltaReads : marquetrylaw13_DeltaReads.Pure := by
  rintro l0 a1 ⟨h, _, _⟩ _
  unfold marquetrylaw13_DeltaReads.f
  rw [if_pos (u8All_iff.2 (fun x hx => wf_u8 (h x hx)))]
end Go.Proofs.Ytbncfhmfohpfbaa.Pure
