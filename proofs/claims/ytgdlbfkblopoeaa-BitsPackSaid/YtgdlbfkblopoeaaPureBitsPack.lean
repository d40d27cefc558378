/- BitsPack: for every width and all numbers the program's packed bytes are the reference's, and what is handed in stays. No condition. -/
import Derived.Test.YtgdlbfkblopoeaaX11
import Derived.Test.YtgdlbfkblopoeaaL1p
namespace Go.Proofs.Ytgdlbfkblopoeaa.Pure
open Go.RowKit Go.Proofs.Ytgdlbfkblopoeaa.X Go.Proofs.YtgdlbfkblopoeaaW.PrintWords Go.Proofs.YtgdlbfkblopoeaaW.PrintLast Go.Proofs.YtgdlbfkblopoeaaW.PrintMore Go.Proofs.Ytgdlbfkblopoeaa.Bx Go.Proofs.Ytgdlbfkblopoeaa.Nx Go.Proofs.Ytgdlbfkblopoeaa.L1

theorem pack_l0 : ∀ (d k : Nat) (l xs ys : List Int) (e : Int) (i : Nat), l.length ≤ 1000000 → i + d = l.length → d < k → (strOfNums xs).toList = (strOfNums ys).toList → marquetrylaw01_BitsPack.l0 k l l xs e ys e (i : Int) = some true
  | 0, k, l, xs, ys, e, i, hl, hi, hk, hs => by
    obtain ⟨k, rfl⟩ : ∃ j, k = j + 1 := ⟨k - 1, by omega⟩
    simp only [marquetrylaw01_BitsPack.l0]
    rw [if_neg (by omega), if_pos hs]; simp
  | d + 1, k, l, xs, ys, e, i, hl, hi, hk, hs => by
    obtain ⟨k, rfl⟩ : ∃ j, k = j + 1 := ⟨k - 1, by omega⟩
    simp only [marquetrylaw01_BitsPack.l0]
    rw [if_pos (by omega), if_pos (by omega), if_pos (by omega), if_pos trivial, w64s (by omega)]
    exact pack_l0 d k l xs ys e (i + 1) hl (by omega) (by omega) hs

theorem BitsPack : marquetrylaw01_BitsPack.Pure := by
  intro w l hw hl
  have hl' : ∀ x ∈ l, 0 ≤ x ∧ x ≤ 18446744073709551615 := fun x hx => wf_u64 (hl.1 x hx)
  refine ⟨40000, ?_⟩
  unfold marquetrylaw01_BitsPack.f
  by_cases c : (l.length : Int) > 500
  · rw [if_pos c]
  rw [if_neg c]
  simp only [List.nil_append, Option.bind_some, List.length_nil]
  rw [if_pos (by omega), pack (by omega) hl', Option.bind_some, ref_pack (by omega) hl' (by omega), Option.bind_some]
  exact pack_l0 l.length 40000 l _ _ _ 0 (by omega) (by omega) (by omega) rfl

end Go.Proofs.Ytgdlbfkblopoeaa.Pure
