/- Small words for the walks that are written by hand. -/
import Derived.Test.YtgdlbfkblopoeaaX0
namespace Go.Proofs.Ytgdlbfkblopoeaa.X
open Go.RowKit Go.Proofs.YtgdlbfkblopoeaaW.PrintWords Go.Proofs.YtgdlbfkblopoeaaW.PrintLast Go.Proofs.YtgdlbfkblopoeaaW.PrintMore

/-- An element of a slice of numbers that is read: its cell. -/
theorem c_at {k : IntKind} {w : World} {A : Option Addr} {n : Nat} {xs : List Int} (h : Kd.C (Kd.int k) w A n xs) (i : Int) (h0 : 0 ≤ i) (h1 : i < n) : ∃ ad, A = some ad ∧ w.cell? (ad.add i.toNat) = some (.int k (rd xs i)) := by
  obtain ⟨ad, c, e, _, hR, hc⟩ := ReadsRow.get_ h 0 i h0 h1
  refine ⟨ad, e, ?_⟩
  have : c = [.int k (rd xs i)] := hR
  subst this
  have := hc 0 _ rfl
  simpa [Kd.int, Kd.scalar] using this
end Go.Proofs.Ytgdlbfkblopoeaa.X
