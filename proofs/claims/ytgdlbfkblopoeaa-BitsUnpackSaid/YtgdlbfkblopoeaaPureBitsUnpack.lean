/- BitsUnpack: for every bytes, width and count the program's numbers are the reference's, or both refuse alike. No condition. -/
import Derived.Test.YtgdlbfkblopoeaaX13
import Derived.Test.YtgdlbfkblopoeaaL1u
namespace Go.Proofs.Ytgdlbfkblopoeaa.Pure
open Go.RowKit Go.Proofs.Ytgdlbfkblopoeaa.X Go.Proofs.YtgdlbfkblopoeaaW.PrintWords Go.Proofs.YtgdlbfkblopoeaaW.PrintLast Go.Proofs.YtgdlbfkblopoeaaW.PrintMore Go.Proofs.Ytgdlbfkblopoeaa.Bx Go.Proofs.Ytgdlbfkblopoeaa.Nx Go.Proofs.Ytgdlbfkblopoeaa.L1

theorem unpack_l0 : ∀ (d k : Nat) (xs : List Int) (i : Nat), xs.length ≤ 100000000 → i + d = xs.length → d < k → marquetrylaw01_BitsUnpack.l0 k xs xs (i : Int) = some true
  | 0, k, xs, i, hl, hi, hk => by
    obtain ⟨k, rfl⟩ : ∃ j, k = j + 1 := ⟨k - 1, by omega⟩
    rw [marquetrylaw01_BitsUnpack.l0, if_neg (by omega)]
  | d + 1, k, xs, i, hl, hi, hk => by
    obtain ⟨k, rfl⟩ : ∃ j, k = j + 1 := ⟨k - 1, by omega⟩
    rw [marquetrylaw01_BitsUnpack.l0, if_pos (by omega), if_pos (by omega), if_pos (by omega), if_pos rfl, w64s (by omega)]
    exact unpack_l0 d k xs (i + 1) hl (by omega) (by omega)
theorem UnpackR_length (l : List Int) (w n : Int) : (UnpackR l w n).1.length ≤ 1048576 := by
  unfold UnpackR
  by_cases c : (SizeR w n).2 = 0
  · obtain ⟨h1, h2, h3, h4, h5, h6⟩ := SizeR_ok c
    rw [if_pos c]
    split
    · simp
    · split
      · simp
      · split
        · simp only [outF_length]; omega
        · simp
  · rw [if_neg c]; simp

theorem BitsUnpack : marquetrylaw01_BitsUnpack.Pure := by
  intro l w n hl hw hn
  have hl' : ∀ x ∈ l, 0 ≤ x ∧ x ≤ 255 := fun x hx => wf_u8 (hl.1 x hx)
  refine ⟨100000001, ?_⟩
  unfold marquetrylaw01_BitsUnpack.f
  by_cases c : (l.length : Int) > 1000
  · rw [if_pos c]
  rw [if_neg c, unpack (by omega) hl' (by omega), Option.bind_some, ref_unpack hl' (by omega) (by omega), Option.bind_some, if_pos rfl]
  have hx := UnpackR_length l w n
  rw [show (100000001 : Nat) = 100000000 + 1 from rfl, marquetrylaw01_BitsUnpack.j0]
  rw [show (((UnpackR l w n).1.length : Int) != ((UnpackR l w n).1.length : Int)) = false by simp, if_neg (by decide)]
  exact unpack_l0 (UnpackR l w n).1.length 100000000 _ 0 (by omega) (by omega) (by omega)

end Go.Proofs.Ytgdlbfkblopoeaa.Pure
