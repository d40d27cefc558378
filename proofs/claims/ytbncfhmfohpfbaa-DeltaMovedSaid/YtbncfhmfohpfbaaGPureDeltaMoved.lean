/- DeltaMoved: numbers of 32 bits that are moved on by as much, all, are laid in the same bytes behind the first one. No condition. -/
import Derived.Test.YtbncfhmfohpfbaaGDeltaMoved3
namespace Go.Proofs.Ytbncfhmfohpfbaa.Pure
open Go.RowKit Go.Proofs.Ytbncfhmfohpfbaa.X Go.Proofs.YtbncfhmfohpfbaaW.PrintWords Go.Proofs.YtbncfhmfohpfbaaW.PrintLast Go.Proofs.YtbncfhmfohpfbaaW.PrintMore Go.Proofs.Ytbncfhmfohpfbaa.Bx

theorem DeltaMoved : marquetrylaw13_DeltaMoved.Pure := by
  rintro l0 a1 ⟨h, _, _⟩ h1
  unfold marquetrylaw13_DeltaMoved.f
  rw [if_pos ⟨fun x hx => wf_i32 (h x hx), wf_i32 h1⟩]
end Go.Proofs.Ytbncfhmfohpfbaa.Pure
