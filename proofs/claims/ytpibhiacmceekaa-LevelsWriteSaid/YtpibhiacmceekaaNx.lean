/- Plain facts on numbers as bytes and as bits: lengths in bits, little-endian bytes, sums of bits. No program in sight. -/
import Derived.Test.YtpibhiacmceekaaBx
namespace Go.Proofs.Ytpibhiacmceekaa.Nx
open Go.RowKit Go.Proofs.Ytpibhiacmceekaa.Bx

/-- How many bits a number needs. -/
def wd (n : Nat) : Nat := if n = 0 then 0 else wd (n / 2) + 1
termination_by n
decreasing_by omega
theorem wd_zero : wd 0 = 0 := by rw [wd]; simp
theorem wd_pos {n : Nat} (h : n ≠ 0) : wd n = wd (n / 2) + 1 := by rw [wd]; simp [h]
theorem wd_le (k : Nat) : ∀ n, wd n ≤ k ↔ n < 2 ^ k := by
  induction k with
  | zero =>
    intro n
    by_cases h : n = 0
    · subst h; simp [wd_zero]
    · rw [wd_pos h]; simp; omega
  | succ k ih =>
    intro n
    by_cases h : n = 0
    · subst h; simp [wd_zero, Nat.two_pow_pos]
    · rw [wd_pos h, Nat.add_le_add_iff_right, ih, Nat.pow_succ]; omega
theorem wd_le64 (n : Nat) (h : n < 18446744073709551616) : wd n ≤ 64 := (wd_le 64 n).2 (by omega)

/-- The bytes of a number, the lowest first. -/
def leb : Nat → Int → List Int
  | 0, _ => []
  | k + 1, n => n % 256 :: leb k (n / 256)
theorem leb_length : ∀ k n, (leb k n).length = k
  | 0, _ => rfl
  | k + 1, n => by simp [leb, leb_length k]
theorem leb_range : ∀ k n, ∀ x ∈ leb k n, 0 ≤ x ∧ x ≤ 255
  | 0, _, x, h => by simp [leb] at h
  | k + 1, n, x, h => by
    simp only [leb, List.mem_cons] at h
    rcases h with rfl | h
    · omega
    · exact leb_range k _ x h
/-- The number of bytes, the lowest first. -/
def leS : List Int → Int
  | [] => 0
  | x :: l => x + 256 * leS l
theorem leS_nonneg : ∀ l : List Int, (∀ x ∈ l, 0 ≤ x ∧ x ≤ 255) → 0 ≤ leS l
  | [], _ => by simp [leS]
  | x :: l, h => by
    have := leS_nonneg l (fun y hy => h y (by simp [hy]))
    have := h x (by simp)
    simp only [leS]; omega
theorem leS_lt : ∀ l : List Int, (∀ x ∈ l, 0 ≤ x ∧ x ≤ 255) → leS l < 256 ^ l.length
  | [], _ => by simp [leS]
  | x :: l, h => by
    have := leS_lt l (fun y hy => h y (by simp [hy]))
    have := h x (by simp)
    simp only [leS, List.length_cons, Int.pow_succ]; omega
theorem leS_snoc : ∀ (l : List Int) (x : Int), leS (l ++ [x]) = leS l + 256 ^ l.length * x
  | [], x => by simp [leS]
  | y :: l, x => by
    simp only [List.cons_append, leS, leS_snoc l x, List.length_cons, Int.pow_succ]
    rw [Int.mul_add]
    have : 256 * ((256 : Int) ^ l.length * x) = 256 ^ l.length * 256 * x := by
      rw [← Int.mul_assoc, Int.mul_comm 256]
    omega
theorem leS_leb : ∀ (k : Nat) (n : Int), leS (leb k n) = n % 256 ^ k
  | 0, n => by simp [leb, leS, Int.emod_one]
  | k + 1, n => by
    simp only [leb, leS, leS_leb k]
    rw [Int.pow_succ]
    have hp : (0 : Int) < 256 ^ k := Int.pow_pos (by decide)
    generalize (256 : Int) ^ k = p at hp
    have h1 := Int.mul_ediv_add_emod n 256
    have h2 := Int.mul_ediv_add_emod (n / 256) p
    have e : n = p * 256 * (n / 256 / p) + (n % 256 + 256 * (n / 256 % p)) := by
      have : p * 256 * (n / 256 / p) = 256 * (p * (n / 256 / p)) := by rw [Int.mul_comm p 256, Int.mul_assoc]
      omega
    have r1 := Int.emod_nonneg (n / 256) (show p ≠ 0 by omega)
    have r2 := Int.emod_lt_of_pos (n / 256) hp
    have key : (n % 256 + 256 * (n / 256 % p) + p * 256 * (n / 256 / p)) % (p * 256) = n % 256 + 256 * (n / 256 % p) := by
      rw [Int.add_mul_emod_self_left]
      exact Int.emod_eq_of_lt (by omega) (by omega)
    rw [show n % 256 + 256 * (n / 256 % p) + p * 256 * (n / 256 / p) = n by omega] at key
    exact key.symm

theorem or_low_high (i : Nat) (x y : Int) (hx0 : 0 ≤ x) (hx : x < 2 ^ i) (hy0 : 0 ≤ y) (hy : y % 2 ^ i = 0) (hy1 : y < 18446744073709551616) (hx1 : x < 18446744073709551616) :
    bits .or .u64 x y = x + y := by
  have := bits_join .u64 64 (by decide) wraps_u64 i y x hy0 hy (by omega) hx0 hx (by omega)
  obtain ⟨a, rfl⟩ := Int.eq_ofNat_of_zero_le hx0
  obtain ⟨b, rfl⟩ := Int.eq_ofNat_of_zero_le hy0
  have c := (bits_nat .u64 64 (by decide) wraps_u64 a b (by omega) (by omega)).2
  have d := (bits_nat .u64 64 (by decide) wraps_u64 b a (by omega) (by omega)).2
  rw [Nat.or_comm] at c
  have : bits .or .u64 (a : Int) (b : Int) = bits .or .u64 (b : Int) (a : Int) := c.trans d.symm
  omega

/-- A list from a place on, of so many. -/
def win (l : List Int) (at_ m : Nat) : List Int := (l.drop at_).take m
theorem win_length {l : List Int} {a m : Nat} (h : a + m ≤ l.length) : (win l a m).length = m := by simp [win]; omega
theorem win_mem {l : List Int} {a m : Nat} {x : Int} (h : x ∈ win l a m) : x ∈ l := List.mem_of_mem_drop (List.mem_of_mem_take h)
theorem win_snoc {l : List Int} {a m : Nat} (h : a + m < l.length) : win l a (m + 1) = win l a m ++ [l.getD (a + m) 0] := by
  unfold win
  rw [List.take_succ_eq_append_getElem (by simp; omega)]
  simp [List.getD_eq_getElem?_getD, h]
theorem win_cons {l : List Int} {a m : Nat} (h : a < l.length) : win l a (m + 1) = l.getD a 0 :: win l (a + 1) m := by
  unfold win
  rw [List.drop_eq_getElem_cons h, List.take_succ_cons]
  simp [List.getD_eq_getElem?_getD, h]
theorem win_zero (l : List Int) (a : Nat) : win l a 0 = [] := by simp [win]
theorem win_all (l : List Int) : win l 0 l.length = l := by simp [win]
end Go.Proofs.Ytpibhiacmceekaa.Nx
