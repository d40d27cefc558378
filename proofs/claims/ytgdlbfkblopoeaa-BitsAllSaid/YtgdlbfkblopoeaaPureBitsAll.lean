/- BitsAll: the reference tells every bit alike; the rest lies in the contract. No condition. -/
import Derived.Test.YtgdlbfkblopoeaaX4
import Derived.Test.YtgdlbfkblopoeaaL1u
namespace Go.Proofs.Ytgdlbfkblopoeaa.Pure
open Go.RowKit Go.Proofs.Ytgdlbfkblopoeaa.X Go.Proofs.YtgdlbfkblopoeaaW.PrintWords Go.Proofs.YtgdlbfkblopoeaaW.PrintLast Go.Proofs.YtgdlbfkblopoeaaW.PrintMore Go.Proofs.Ytgdlbfkblopoeaa.Bx Go.Proofs.Ytgdlbfkblopoeaa.Nx Go.Proofs.Ytgdlbfkblopoeaa.L1

theorem BitsAll : marquetrylaw01_BitsAll.Pure := by
  intro l a hl ha
  have hl' : ∀ x ∈ l, 0 ≤ x ∧ x ≤ 255 := fun x hx => wf_u8 (hl.1 x hx)
  refine ⟨100, ?_⟩
  unfold marquetrylaw01_BitsAll.f
  by_cases c : (l.length : Int) > 500
  · rw [if_pos c]
  rw [if_neg c, if_pos]
  intro i hi
  rw [ref_bit (by omega) (by omega) hl' hi, bitv_eq (getD_u8 hl' _)]
  have := bt_range l i
  have e : l.getD (i / 8) 0 / 2 ^ (i % 8) % 2 = bt l i := rfl
  rw [e, u64w]
  congr 1
  omega

end Go.Proofs.Ytgdlbfkblopoeaa.Pure
