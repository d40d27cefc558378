/- StringsBack: every texts are read as they were laid, either way, and each shorter beginning is too short, a byte more too much. No condition. -/
import Derived.Test.YtcdephhplmcmjaaGStringsBack4
namespace Go.Proofs.Ytcdephhplmcmjaa.Pure
open Go.RowKit Go.Proofs.Ytcdephhplmcmjaa.X Go.Proofs.YtcdephhplmcmjaaW.PrintWords Go.Proofs.YtcdephhplmcmjaaW.PrintLast Go.Proofs.YtcdephhplmcmjaaW.PrintMore Go.Proofs.Ytcdephhplmcmjaa.Bx

theorem StringsBack : marquetrylaw14_StringsBack.Pure := by
  rintro l0 a1 ⟨h, _, _⟩ _
  unfold marquetrylaw14_StringsBack.f
  exact if_pos h
end Go.Proofs.Ytcdephhplmcmjaa.Pure
