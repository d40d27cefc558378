/- StringsWrites: of all texts the program lays the bytes that the reference lays, by lengths and by prefixes; what is handed in stays. No condition. -/
import Derived.Test.YtcdephhplmcmjaaGStringsWrites5
namespace Go.Proofs.Ytcdephhplmcmjaa.Pure
open Go.RowKit Go.Proofs.Ytcdephhplmcmjaa.X Go.Proofs.YtcdephhplmcmjaaW.PrintWords Go.Proofs.YtcdephhplmcmjaaW.PrintLast Go.Proofs.YtcdephhplmcmjaaW.PrintMore Go.Proofs.Ytcdephhplmcmjaa.Bx

theorem StringsWrites : marquetrylaw14_StringsWrites.Pure := by
  rintro l0 ⟨h, _, _⟩
  unfold marquetrylaw14_StringsWrites.f
  exact if_pos h
end Go.Proofs.Ytcdephhplmcmjaa.Pure
