/- BitsVarint: for every number the program's varint is the reference's. No condition. -/
import Derived.Test.YtgdlbfkblopoeaaPBitsVarintx1
import Derived.Test.YtgdlbfkblopoeaaBx
namespace Go.Proofs.Ytgdlbfkblopoeaa.Pure
open Go.RowKit Go.Proofs.Ytgdlbfkblopoeaa.PBitsVarint Go.Proofs.YtgdlbfkblopoeaaW.PrintWords Go.Proofs.YtgdlbfkblopoeaaW.PrintLast Go.Proofs.Ytgdlbfkblopoeaa.Bx

theorem both : ∀ (k : Nat) (x : Int) (y : List Int), 0 ≤ x → x ≤ 18446744073709551615 → bits_Varint.l0 k x y = marquetryref01_Varint.l0 k x y := by
  intro k
  induction k with
  | zero => intros; rfl
  | succ k ih =>
    intro x y h0 h1
    simp only [bits_Varint.l0, marquetryref01_Varint.l0]
    rw [u64_tdiv 128 h0 h1 (by omega), show Int.tmod x 128 = x % 128 from Int.tmod_eq_emod_of_nonneg h0,
      and_127_u64 x h0 h1, or_128_u64 _ (by omega) (by omega), u64w, show (128 + x % 128) % 18446744073709551616 = x % 128 + 128 by omega]
    by_cases c : x ≥ 128
    · rw [if_pos c, if_pos c]
      by_cases d : y.length < 140737488355328
      · rw [if_pos d, if_pos d]; exact ih _ _ (by omega) (by omega)
      · rw [if_neg d, if_neg d]
    · rw [if_neg c, if_neg c]
theorem ends : ∀ (d : Nat) (x : Int) (y : List Int), 0 ≤ x → x < 2 ^ d → y.length + d < 140737488355328 → ∃ r, bits_Varint.l0 (d + 1) x y = some r := by
  intro d
  induction d with
  | zero => intro x y h0 h1 h2; exact ⟨y ++ [x % 256], by rw [bits_Varint.l0, if_neg (by simp at h1; omega), if_pos (by omega)]⟩
  | succ d ih =>
    intro x y h0 h1 h2
    by_cases c : x ≥ 128
    · obtain ⟨r, hr⟩ := ih (x / 128) (y ++ [(Go.bits .or .u64 (Go.bits .and .u64 x 127) 128) % 256]) (by omega) (by rw [Int.pow_succ] at h1; omega) (by simp; omega)
      exact ⟨r, by rw [bits_Varint.l0, if_pos c, if_pos (by omega)]; exact hr⟩
    · exact ⟨y ++ [x % 256], by rw [bits_Varint.l0, if_neg c, if_pos (by omega)]⟩
theorem BitsVarint : marquetrylaw01_BitsVarint.Pure := by
  intro a ha
  obtain ⟨h, h'⟩ := wf_u64 ha
  obtain ⟨r, hr⟩ := ends 64 a [] h (by omega) (by simp)
  refine ⟨65, ?_⟩
  unfold marquetrylaw01_BitsVarint.f bits_Varint.f marquetryref01_Varint.f
  rw [← both 65 a [] h h', hr]
  simp

end Go.Proofs.Ytgdlbfkblopoeaa.Pure
