/- StringsLengths: of all bytes the program tells which texts they are by lengths, or what is wrong, as the reference does; what is handed in stays. No condition. -/
import Derived.Test.YtcdephhplmcmjaaGStringsLengths6
namespace Go.Proofs.Ytcdephhplmcmjaa.Pure
open Go.RowKit Go.Proofs.Ytcdephhplmcmjaa.X Go.Proofs.YtcdephhplmcmjaaW.PrintWords Go.Proofs.YtcdephhplmcmjaaW.PrintLast Go.Proofs.YtcdephhplmcmjaaW.PrintMore Go.Proofs.Ytcdephhplmcmjaa.Bx

theorem StringsLengths : marquetrylaw14_StringsLengths.Pure := by
  rintro l0 a1 ⟨h, _, _⟩ _
  unfold marquetrylaw14_StringsLengths.f
  rw [if_pos (u8All_iff.2 (fun x hx => wf_u8 (h x hx)))]
end Go.Proofs.Ytcdephhplmcmjaa.Pure
