/- DeltaPacks: numbers are packed as the reference packs them, and have as many bits; what is handed in stays. No condition. -/
import Derived.Test.YtbncfhmfohpfbaaGDeltaPacks4
namespace Go.Proofs.Ytbncfhmfohpfbaa.Pure
open Go.RowKit Go.Proofs.Ytbncfhmfohpfbaa.X Go.Proofs.YtbncfhmfohpfbaaW.PrintWords Go.Proofs.YtbncfhmfohpfbaaW.PrintLast Go.Proofs.YtbncfhmfohpfbaaW.PrintMore Go.Proofs.Ytbncfhmfohpfbaa.Bx

theorem DeltaPacks : marquetrylaw13_DeltaPacks.Pure := by
  rintro a0 l1 ha ⟨h, _, _⟩
  unfold marquetrylaw13_DeltaPacks.f
  rw [if_pos (i64All_iff.2 (fun x hx => wf_i64 (h x hx)))]
end Go.Proofs.Ytbncfhmfohpfbaa.Pure
