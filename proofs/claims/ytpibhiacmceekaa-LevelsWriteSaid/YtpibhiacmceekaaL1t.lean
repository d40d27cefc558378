/- Layer 1, varints: the bytes of a number, by the program and by the reference (L1v without the reading: for seats where ReadVarint is not printed). -/
import Derived.Test.YtpibhiacmceekaaX5
import Derived.Test.YtpibhiacmceekaaX11
import Derived.Test.YtpibhiacmceekaaNx
namespace Go.Proofs.Ytpibhiacmceekaa.L1
set_option linter.unusedVariables false
set_option linter.unusedSimpArgs false
open Go.RowKit Go.Proofs.Ytpibhiacmceekaa.X Go.Proofs.YtpibhiacmceekaaW.PrintWords Go.Proofs.YtpibhiacmceekaaW.PrintLast Go.Proofs.YtpibhiacmceekaaW.PrintMore Go.Proofs.Ytpibhiacmceekaa.Bx Go.Proofs.Ytpibhiacmceekaa.Nx

/-- The bytes of a number as a varint. -/
def vb (n : Nat) : List Int := if n < 128 then [(n : Int)] else ((n % 128 + 128 : Nat) : Int) :: vb (n / 128)
termination_by n
decreasing_by omega
theorem vb_small {n : Nat} (h : n < 128) : vb n = [(n : Int)] := by rw [vb, if_pos h]
theorem vb_big {n : Nat} (h : 128 ≤ n) : vb n = ((n % 128 + 128 : Nat) : Int) :: vb (n / 128) := by rw [vb, if_neg (by omega)]
theorem vb_length : ∀ (d : Nat) (n : Nat), n < 128 ^ (d + 1) → 1 ≤ (vb n).length ∧ (vb n).length ≤ d + 1
  | 0, n, h => by rw [vb_small (by simpa using h)]; simp
  | d + 1, n, h => by
    by_cases c : n < 128
    · rw [vb_small c]; simp
    · rw [vb_big (by omega)]
      have := vb_length d (n / 128) (by rw [Nat.pow_succ] at h; omega)
      simp; omega
theorem vb_length64 {n : Nat} (h : n < 18446744073709551616) : 1 ≤ (vb n).length ∧ (vb n).length ≤ 10 := vb_length 9 n (by omega)
theorem vb_range : ∀ (n : Nat), ∀ x ∈ vb n, 0 ≤ x ∧ x ≤ 255 := by
  intro n
  induction n using Nat.strongRecOn with
  | _ n ih =>
    intro x hx
    by_cases c : n < 128
    · rw [vb_small c] at hx; simp at hx; omega
    · rw [vb_big (by omega), List.mem_cons] at hx
      rcases hx with rfl | hx
      · omega
      · exact ih (n / 128) (by omega) x hx
theorem varint_l : ∀ (k : Nat) (x : Int) (acc : List Int), 0 ≤ x → x ≤ 18446744073709551615 → acc.length + (vb x.toNat).length < 140737488355328 → (vb x.toNat).length ≤ k → bits_Varint.l0 k x acc = some (acc ++ vb x.toNat)
  | 0, x, _, _, _, _, h => by
    exfalso
    by_cases c : x.toNat < 128
    · rw [vb_small c] at h; simp at h
    · rw [vb_big (by omega)] at h; simp at h
  | k + 1, x, acc, h0, h1, h2, h => by
    simp only [bits_Varint.l0]
    rw [and_127_u64 x h0 h1, or_128_u64 _ (by omega) (by omega)]
    by_cases c : x ≥ 128
    · have e := vb_big (n := x.toNat) (by omega)
      rw [e, List.length_cons] at h h2
      rw [if_pos c, if_pos (by omega), e]
      have q : (x / 128).toNat = x.toNat / 128 := by omega
      rw [varint_l k (x / 128) _ (by omega) (by omega) (by rw [q]; simp; omega) (by rw [q]; omega), q]
      have r : (x % 128 + 128) % 256 = ((x.toNat % 128 + 128 : Nat) : Int) := by omega
      rw [r]; simp
    · have e := vb_small (n := x.toNat) (by omega)
      rw [e, List.length_singleton] at h2
      rw [if_neg c, if_pos (by omega), e, show x % 256 = ((x.toNat : Nat) : Int) by omega]
theorem varint {k : Nat} {x : Int} (hk : 10 ≤ k) (h0 : 0 ≤ x) (h1 : x ≤ 18446744073709551615) : bits_Varint.f k x = some (vb x.toNat) := by
  have := vb_length64 (n := x.toNat) (by omega)
  unfold bits_Varint.f
  rw [varint_l k x [] h0 h1 (by simp; omega) (by omega)]; simp


theorem varint_both : ∀ (k : Nat) (x : Int) (y : List Int), 0 ≤ x → x ≤ 18446744073709551615 → bits_Varint.l0 k x y = marquetryref01_Varint.l0 k x y := by
  intro k
  induction k with
  | zero => intros; rfl
  | succ k ih =>
    intro x y h0 h1
    simp only [bits_Varint.l0, marquetryref01_Varint.l0]
    rw [u64_tdiv 128 h0 h1 (by omega), show Int.tmod x 128 = x % 128 from Int.tmod_eq_emod_of_nonneg h0,
      and_127_u64 x h0 h1, or_128_u64 _ (by omega) (by omega), u64w, show (128 + x % 128) % 18446744073709551616 = x % 128 + 128 by omega]
    by_cases c : x ≥ 128
    · rw [if_pos c, if_pos c]
      by_cases d : y.length < 140737488355328
      · rw [if_pos d, if_pos d]; exact ih _ _ (by omega) (by omega)
      · rw [if_neg d, if_neg d]
    · rw [if_neg c, if_neg c]
theorem ref_varint {k : Nat} {x : Int} (hk : 10 ≤ k) (h0 : 0 ≤ x) (h1 : x ≤ 18446744073709551615) : marquetryref01_Varint.f k x = some (vb x.toNat) := by
  have := varint hk h0 h1
  unfold bits_Varint.f at this
  unfold marquetryref01_Varint.f
  rw [← varint_both k x [] h0 h1, this]
end Go.Proofs.Ytpibhiacmceekaa.L1
