/- DeltaBounds: the bound of numbers, and one past it. No condition. -/
import Derived.Test.YtbncfhmfohpfbaaGDeltaBounds3
namespace Go.Proofs.Ytbncfhmfohpfbaa.Pure
open Go.RowKit Go.Proofs.Ytbncfhmfohpfbaa.X

theorem DeltaBounds : marquetrylaw13_DeltaBounds.Pure := rfl
end Go.Proofs.Ytbncfhmfohpfbaa.Pure
