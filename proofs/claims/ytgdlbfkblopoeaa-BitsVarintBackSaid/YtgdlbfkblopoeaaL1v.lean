/- Layer 1, varints: the bytes of a number, and their reading, wherever they stand. -/
import Derived.Test.YtgdlbfkblopoeaaX1
import Derived.Test.YtgdlbfkblopoeaaX6
import Derived.Test.YtgdlbfkblopoeaaNx
namespace Go.Proofs.Ytgdlbfkblopoeaa.L1
set_option linter.unusedVariables false
set_option linter.unusedSimpArgs false
open Go.RowKit Go.Proofs.Ytgdlbfkblopoeaa.X Go.Proofs.YtgdlbfkblopoeaaW.PrintWords Go.Proofs.YtgdlbfkblopoeaaW.PrintLast Go.Proofs.YtgdlbfkblopoeaaW.PrintMore Go.Proofs.Ytgdlbfkblopoeaa.Bx Go.Proofs.Ytgdlbfkblopoeaa.Nx

/-- The bytes of a number as a varint. -/
def vb (n : Nat) : List Int := if n < 128 then [(n : Int)] else ((n % 128 + 128 : Nat) : Int) :: vb (n / 128)
termination_by n
decreasing_by omega
theorem vb_small {n : Nat} (h : n < 128) : vb n = [(n : Int)] := by rw [vb, if_pos h]
theorem vb_big {n : Nat} (h : 128 ≤ n) : vb n = ((n % 128 + 128 : Nat) : Int) :: vb (n / 128) := by rw [vb, if_neg (by omega)]
theorem vb_length : ∀ (d : Nat) (n : Nat), n < 128 ^ (d + 1) → 1 ≤ (vb n).length ∧ (vb n).length ≤ d + 1
  | 0, n, h => by rw [vb_small (by simpa using h)]; simp
  | d + 1, n, h => by
    by_cases c : n < 128
    · rw [vb_small c]; simp
    · rw [vb_big (by omega)]
      have := vb_length d (n / 128) (by rw [Nat.pow_succ] at h; omega)
      simp; omega
theorem vb_length64 {n : Nat} (h : n < 18446744073709551616) : 1 ≤ (vb n).length ∧ (vb n).length ≤ 10 := vb_length 9 n (by omega)
theorem vb_range : ∀ (n : Nat), ∀ x ∈ vb n, 0 ≤ x ∧ x ≤ 255 := by
  intro n
  induction n using Nat.strongRecOn with
  | _ n ih =>
    intro x hx
    by_cases c : n < 128
    · rw [vb_small c] at hx; simp at hx; omega
    · rw [vb_big (by omega), List.mem_cons] at hx
      rcases hx with rfl | hx
      · omega
      · exact ih (n / 128) (by omega) x hx
theorem varint_l : ∀ (k : Nat) (x : Int) (acc : List Int), 0 ≤ x → x ≤ 18446744073709551615 → acc.length + (vb x.toNat).length < 140737488355328 → (vb x.toNat).length ≤ k → bits_Varint.l0 k x acc = some (acc ++ vb x.toNat)
  | 0, x, _, _, _, _, h => by
    exfalso
    by_cases c : x.toNat < 128
    · rw [vb_small c] at h; simp at h
    · rw [vb_big (by omega)] at h; simp at h
  | k + 1, x, acc, h0, h1, h2, h => by
    simp only [bits_Varint.l0]
    rw [and_127_u64 x h0 h1, or_128_u64 _ (by omega) (by omega)]
    by_cases c : x ≥ 128
    · have e := vb_big (n := x.toNat) (by omega)
      rw [e, List.length_cons] at h h2
      rw [if_pos c, if_pos (by omega), e]
      have q : (x / 128).toNat = x.toNat / 128 := by omega
      rw [varint_l k (x / 128) _ (by omega) (by omega) (by rw [q]; simp; omega) (by rw [q]; omega), q]
      have r : (x % 128 + 128) % 256 = ((x.toNat % 128 + 128 : Nat) : Int) := by omega
      rw [r]; simp
    · have e := vb_small (n := x.toNat) (by omega)
      rw [e, List.length_singleton] at h2
      rw [if_neg c, if_pos (by omega), e, show x % 256 = ((x.toNat : Nat) : Int) by omega]
theorem varint {k : Nat} {x : Int} (hk : 10 ≤ k) (h0 : 0 ≤ x) (h1 : x ≤ 18446744073709551615) : bits_Varint.f k x = some (vb x.toNat) := by
  have := vb_length64 (n := x.toNat) (by omega)
  unfold bits_Varint.f
  rw [varint_l k x [] h0 h1 (by simp; omega) (by omega)]; simp

theorem and_127_u8 (x : Int) (h0 : 0 ≤ x) (h1 : x ≤ 255) : bits .and .u8 x 127 = x % 128 := bits_mask .u8 8 (by decide) wraps_u8 7 (by decide) x h0 (by omega)
theorem rvn_eq {n x s : Int} {j : Nat} (hs : s = ((7 * j : Nat) : Int)) (h0 : 0 ≤ n) (h1 : n < 2 ^ (7 * j)) (x0 : 0 ≤ x) (x1 : x ≤ 255) (hb : (x % 128) * 2 ^ (7 * j) < 18446744073709551616) (h2 : n < 18446744073709551616) :
    rvn n x s = n + (x % 128) * 2 ^ (7 * j) := by
  unfold rvn
  subst hs
  rw [and_127_u8 x x0 x1, u64w, u64w, Int.emod_eq_of_lt (by omega) (by omega : x % 128 < 18446744073709551616), show ((7 * j : Nat) : Int).toNat = 7 * j by omega]
  have hp : (0 : Int) < 2 ^ (7 * j) := Int.pow_pos (by decide)
  have hm : 0 ≤ (x % 128) * 2 ^ (7 * j) := Int.mul_nonneg (by omega) (by omega)
  rw [Int.emod_eq_of_lt hm hb]
  exact or_low_high (7 * j) _ _ h0 h1 hm (Int.mul_emod_left _ _) hb h2

/-- A varint is read wherever it stands. -/
theorem read_vb : ∀ (k : Nat) (n : Nat) (b tl : List Int) (fr p : Int) (j : Nat) (acc : Int), 0 ≤ fr → fr ≤ p → p = fr + j → b.drop p.toNat = vb n ++ tl → 0 ≤ acc → acc < 2 ^ (7 * j) → acc + n * 2 ^ (7 * j) < 18446744073709551616 → (0 < j → 0 < n) → j ≤ 9 → (vb n).length ≤ k →
    rvl k b fr p ((7 * j : Nat) : Int) acc = some (acc + n * 2 ^ (7 * j), p + (vb n).length, 0)
  | 0, n, _, _, _, _, _, _, _, _, _, _, _, _, _, _, _, h => by
    exfalso
    by_cases c : n < 128
    · rw [vb_small c] at h; simp at h
    · rw [vb_big (by omega)] at h; simp at h
  | k + 1, n, b, tl, fr, p, j, acc, hf, hp, hpj, hd, ha, ha1, hn, hj, hj9, h => by
    have hP : (0 : Int) < 2 ^ (7 * j) := Int.pow_pos (by decide)
    rw [rvl]
    by_cases c : n < 128
    · rw [vb_small c] at hd h ⊢
      have hlt : p.toNat < b.length := by
        rcases Nat.lt_or_ge p.toNat b.length with q | q
        · exact q
        · rw [List.drop_eq_nil_of_le q] at hd; simp at hd
      have hr : rd b p = n := by
        unfold rd
        rw [List.drop_eq_getElem_cons hlt] at hd
        rw [List.getD_eq_getElem?_getD, List.getElem?_eq_getElem hlt]
        simpa using (List.cons.inj hd).1
      rw [if_pos (by omega), hr]
      have h9 : ¬(((7 * j : Nat) : Int) = 63 ∧ (1 : Int) < n) := by
        rintro ⟨g, g2⟩
        have : j = 9 := by omega
        subst this
        have : (2 : Int) ^ (7 * 9) = 9223372036854775808 := by decide
        omega
      rw [if_neg h9, if_pos (by omega), if_neg (by rintro ⟨g, g2⟩; have := hj (by omega); omega)]
      rw [rvn_eq (j := j) rfl ha ha1 (by omega) (by omega) (by rw [show (n : Int) % 128 = n by omega]; omega) (by have : 0 ≤ (n : Int) * 2 ^ (7 * j) := Int.mul_nonneg (by omega) (by omega); omega)]
      rw [show (n : Int) % 128 = n by omega]; simp
    · rw [vb_big (by omega)] at hd h ⊢
      have hlt : p.toNat < b.length := by
        rcases Nat.lt_or_ge p.toNat b.length with q | q
        · exact q
        · rw [List.drop_eq_nil_of_le q] at hd; simp at hd
      rw [List.drop_eq_getElem_cons hlt, List.cons_append] at hd
      obtain ⟨hd1, hd2⟩ := List.cons.inj hd
      have hr : rd b p = ((n % 128 + 128 : Nat) : Int) := by
        unfold rd
        rw [List.getD_eq_getElem?_getD, List.getElem?_eq_getElem hlt]
        simpa using hd1
      have hj9' : j < 9 := by
        rcases Nat.lt_or_ge j 9 with q | q
        · exact q
        · exfalso
          have : j = 9 := by omega
          subst this
          have : (2 : Int) ^ (7 * 9) = 9223372036854775808 := by decide
          omega
      rw [if_pos (by omega), hr, if_neg (by omega), if_neg (by omega)]
      have hq : (2 : Int) ^ (7 * (j + 1)) = 128 * 2 ^ (7 * j) := by rw [show 7 * (j + 1) = 7 * j + 7 by omega, Int.pow_add]; rw [Int.mul_comm]; rfl
      generalize hPP : (2 : Int) ^ (7 * j) = P at *
      have hsum : (n : Int) * P = ((n % 128 : Nat) : Int) * P + ((n / 128 : Nat) : Int) * (128 * P) := by
        have : (n : Int) = ((n % 128 : Nat) : Int) + ((n / 128 : Nat) : Int) * 128 := by omega
        conv => lhs; rw [this]
        rw [Int.add_mul, Int.mul_assoc]
      have h1 : 0 ≤ ((n / 128 : Nat) : Int) * (128 * P) := Int.mul_nonneg (by omega) (by omega)
      have h2 : 0 ≤ ((n % 128 : Nat) : Int) * P := Int.mul_nonneg (by omega) (by omega)
      have h3 : ((n % 128 : Nat) : Int) * P ≤ 127 * P := Int.mul_le_mul_of_nonneg_right (by omega) (by omega)
      rw [rvn_eq (j := j) rfl ha (by rw [hPP]; exact ha1) (by omega) (by omega) (by rw [hPP, show (((n % 128 + 128 : Nat) : Int)) % 128 = ((n % 128 : Nat) : Int) by omega]; omega) (by omega), hPP,
        show (((n % 128 + 128 : Nat) : Int)) % 128 = ((n % 128 : Nat) : Int) by omega]
      have := read_vb k (n / 128) b tl fr (p + 1) (j + 1) (acc + ((n % 128 : Nat) : Int) * P) hf (by omega) (by omega) (by rw [show (p + 1).toNat = p.toNat + 1 by omega]; exact hd2) (by omega) (by rw [hq]; omega) (by rw [hq]; omega) (by intro _; omega) (by omega) (by simp at h; omega)
      rw [show ((7 * j : Nat) : Int) + 7 = ((7 * (j + 1) : Nat) : Int) by omega, this, hq]
      simp only [Option.some.injEq, Prod.mk.injEq, List.length_cons]
      refine ⟨by omega, by omega, trivial⟩
theorem readVarint_back {k : Nat} {n : Nat} {hd tl : List Int} (hk : 10 ≤ k) (hn : n < 18446744073709551616) : bits_ReadVarint.f k (hd ++ (vb n ++ tl)) (hd.length : Int) = some ((n : Int), (hd.length : Int) + (vb n).length, 0) := by
  have hl := vb_length64 hn
  unfold bits_ReadVarint.f
  rw [if_neg (by omega), if_neg (by simp; omega)]
  have := read_vb k n (hd ++ (vb n ++ tl)) tl hd.length hd.length 0 0 (by omega) (by omega) (by omega) (by simp) (by omega) (by simp) (by simp; omega) (by omega) (by omega) (by omega)
  simpa using this
end Go.Proofs.Ytgdlbfkblopoeaa.L1
