/- DeltaBegins: of all bytes the program tells which list they begin with, or what is wrong, as the reference does; what is handed in stays. No condition. -/
import Derived.Test.YtbncfhmfohpfbaaGDeltaBegins5
import Derived.Test.YtbncfhmfohpfbaaGDeltaBegins4
namespace Go.Proofs.Ytbncfhmfohpfbaa.Pure
open Go.RowKit Go.Proofs.Ytbncfhmfohpfbaa.X Go.Proofs.YtbncfhmfohpfbaaW.PrintWords Go.Proofs.YtbncfhmfohpfbaaW.PrintLast Go.Proofs.YtbncfhmfohpfbaaW.PrintMore Go.Proofs.Ytbncfhmfohpfbaa.Bx

theorem DeltaBegins : marquetrylaw13_DeltaBegins.Pure := by
  rintro l0 ⟨h, _, _⟩
  unfold marquetrylaw13_DeltaBegins.f
  rw [if_pos (u8All_iff.2 (fun x hx => wf_u8 (h x hx)))]
end Go.Proofs.Ytbncfhmfohpfbaa.Pure
