/- BitsPackBack: what is packed is unpacked as it was, and what is unpacked is packed as it was: for every width, numbers, bytes, count. No condition. -/
import Derived.Test.YtgdlbfkblopoeaaX14
import Derived.Test.YtgdlbfkblopoeaaL1b
namespace Go.Proofs.Ytgdlbfkblopoeaa.Pure
open Go.RowKit Go.Proofs.Ytgdlbfkblopoeaa.X Go.Proofs.YtgdlbfkblopoeaaW.PrintWords Go.Proofs.YtgdlbfkblopoeaaW.PrintLast Go.Proofs.YtgdlbfkblopoeaaW.PrintMore Go.Proofs.Ytgdlbfkblopoeaa.Bx Go.Proofs.Ytgdlbfkblopoeaa.Nx Go.Proofs.Ytgdlbfkblopoeaa.L1

theorem pb_j3 {k : Nat} {w n : Int} {b : List Int} (hk : 67 ≤ k) (hb : ∀ x ∈ b, 0 ≤ x ∧ x ≤ 255) (hl : b.length ≤ 1048576) : marquetrylaw01_BitsPackBack.j3 k w b n = some true := by
  obtain ⟨k, rfl⟩ : ∃ j, k = j + 1 := ⟨k - 1, by omega⟩
  rw [marquetrylaw01_BitsPackBack.j3, unpack (by omega) hb hl, Option.bind_some]
  by_cases c : (UnpackR b w n).2 = 0
  · obtain ⟨h1, h2⟩ := pack_unpack hb c
    rw [if_pos c, pack (by omega) h2, Option.bind_some, h1, if_pos rfl]
    simp
  · rw [if_neg c, UnpackR_bad c]; rfl
theorem pb_l0 {w n : Int} {b : List Int} (hb : ∀ x ∈ b, 0 ≤ x ∧ x ≤ 255) (hl : b.length ≤ 1048576) : ∀ (d k : Nat) (l : List Int) (i : Nat), l.length ≤ 1000000 → i + d = l.length → 70 + d < k → marquetrylaw01_BitsPackBack.l0 k w l b n l (i : Int) = some true
  | 0, k, l, i, hll, hi, hk => by
    obtain ⟨k, rfl⟩ : ∃ j, k = j + 1 := ⟨k - 1, by omega⟩
    rw [marquetrylaw01_BitsPackBack.l0, if_neg (by omega)]
    exact pb_j3 (by omega) hb hl
  | d + 1, k, l, i, hll, hi, hk => by
    obtain ⟨k, rfl⟩ : ∃ j, k = j + 1 := ⟨k - 1, by omega⟩
    rw [marquetrylaw01_BitsPackBack.l0, if_pos (by omega), if_pos (by omega), if_pos (by omega), if_pos rfl, w64s (by omega)]
    exact pb_l0 hb hl d k l (i + 1) hll (by omega) (by omega)

theorem BitsPackBack : marquetrylaw01_BitsPackBack.Pure := by
  intro w l b n hw hl hb hn
  have hl' : ∀ x ∈ l, 0 ≤ x ∧ x ≤ 18446744073709551615 := fun x hx => wf_u64 (hl.1 x hx)
  have hb' : ∀ x ∈ b, 0 ≤ x ∧ x ≤ 255 := fun x hx => wf_u8 (hb.1 x hx)
  refine ⟨1002, ?_⟩
  unfold marquetrylaw01_BitsPackBack.f
  by_cases c : (l.length : Int) > 500
  · rw [if_pos c, marquetrylaw01_BitsPackBack.j0, if_pos rfl]
  rw [if_neg c]
  by_cases d : (b.length : Int) > 500
  · rw [decide_eq_true d, marquetrylaw01_BitsPackBack.j0, if_pos rfl]
  rw [decide_eq_false d, marquetrylaw01_BitsPackBack.j0, if_neg (by decide), pack (by omega) hl', Option.bind_some]
  by_cases e : (PackR w l).2 = 0
  · obtain ⟨h1, h2, h3⟩ := unpack_pack hl' e
    rw [if_pos e, unpack (by omega) h2 h3, Option.bind_some, h1, if_pos rfl]
    simp only
    rw [show ((l.length : Int) != (l.length : Int)) = false by simp, marquetrylaw01_BitsPackBack.j1, if_neg (by decide)]
    exact pb_l0 hb' (by omega) l.length 1000 l 0 (by omega) (by omega) (by omega)
  · rw [if_neg e]
    exact pb_j3 (by omega) hb' (by omega)

end Go.Proofs.Ytgdlbfkblopoeaa.Pure
