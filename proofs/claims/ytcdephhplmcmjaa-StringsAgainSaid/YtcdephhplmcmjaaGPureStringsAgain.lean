/- StringsAgain: of every bytes the texts that are read are laid in the same bytes. No condition. -/
import Derived.Test.YtcdephhplmcmjaaGStringsAgain4
namespace Go.Proofs.Ytcdephhplmcmjaa.Pure
open Go.RowKit Go.Proofs.Ytcdephhplmcmjaa.X Go.Proofs.YtcdephhplmcmjaaW.PrintWords Go.Proofs.YtcdephhplmcmjaaW.PrintLast Go.Proofs.YtcdephhplmcmjaaW.PrintMore Go.Proofs.Ytcdephhplmcmjaa.Bx

theorem StringsAgain : marquetrylaw14_StringsAgain.Pure := by
  rintro l0 a1 ⟨h, _, _⟩ _
  unfold marquetrylaw14_StringsAgain.f
  rw [if_pos (u8All_iff.2 (fun x hx => wf_u8 (h x hx)))]
end Go.Proofs.Ytcdephhplmcmjaa.Pure
