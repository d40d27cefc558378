/- LevelsUnframe: texts of this seat in one (wip/merge.py): Bx, Nx, L1, Lw, X35, Ri, Bi, X43, X64, Hy, Hr, Hq, Hh, Ha, Hw, X45, X46, X55. -/
import Derived.Laws.BitsLemmas
import Derived.Laws.Bits64
import Derived.IntWalk
import Derived.RowKit
import Derived.Test.YtpibhiacmceekaaGLevelsUnframe0
import Derived.Laws.Rows
import Derived.Laws.CopyOwn
import Derived.StillTailTactics
import Derived.RangeFuncNested
import Derived.RangeFuncBound
import Derived.RangeFuncCalls
import Derived.RangeFuncLeaves
import Derived.RangeFuncFrom
import Derived.RangeFuncWrites
import Derived.RangeFuncBox
import Derived.OrdersIn
import Derived.OwnWalkIn
import Derived.TacticsInMore
import Derived.LoopNIn
import Derived.LoopIn
import Derived.Shelf.Abstract
import Derived.Outline
import Derived.Recover
import Derived.WalkLawsBesides
namespace Go.Proofs.Ytpibhiacmceekaa.Bx
open Go.RowKit

theorem u64w (n : Int) : IntKind.u64.wrap n = n % 18446744073709551616 := IntKind.wrap_u64 n
theorem toNat64 (x : Int) : ((BitVec.ofInt 64 x).toNat : Int) = x % 18446744073709551616 := by
  rw [BitVec.toNat_ofInt]; omega
theorem xor_zero_u64 (x : Int) : bits .xor .u64 x 0 = x % 18446744073709551616 := by
  show IntKind.u64.wrap ((BitVec.ofInt 64 x ^^^ BitVec.ofInt 64 0).toNat : Int) = _
  have : BitVec.ofInt 64 0 = 0#64 := rfl
  rw [this, BitVec.xor_zero, toNat64, u64w]; omega
theorem xor_ones_u64 (x : Int) : bits .xor .u64 x 18446744073709551615 = 18446744073709551615 - x % 18446744073709551616 := by
  show IntKind.u64.wrap ((BitVec.ofInt 64 x ^^^ BitVec.ofInt 64 18446744073709551615).toNat : Int) = _
  have e : BitVec.ofInt 64 18446744073709551615 = BitVec.allOnes 64 := by decide
  rw [e, BitVec.xor_allOnes, BitVec.toNat_not, u64w]
  have h := toNat64 x
  have hl := (BitVec.ofInt 64 x).isLt
  omega
theorem xor_zero_i64 (x : Int) : bits .xor .i64 x 0 = wrap64 x := by
  show IntKind.i64.wrap ((BitVec.ofInt 64 x ^^^ BitVec.ofInt 64 0).toNat : Int) = _
  have : BitVec.ofInt 64 0 = 0#64 := rfl
  rw [this, BitVec.xor_zero, toNat64, IntKind.wrap_i64]; unfold wrap64; omega
theorem xor_ones_i64 (x : Int) : bits .xor .i64 x (-1) = wrap64 (-1 - x) := by
  show IntKind.i64.wrap ((BitVec.ofInt 64 x ^^^ BitVec.ofInt 64 (-1)).toNat : Int) = _
  have e : BitVec.ofInt 64 (-1) = BitVec.allOnes 64 := by decide
  rw [e, BitVec.xor_allOnes, BitVec.toNat_not, IntKind.wrap_i64]
  have h := toNat64 x
  have hl := (BitVec.ofInt 64 x).isLt
  unfold wrap64
  omega
theorem wraps_u64 (n : Int) (h₀ : 0 ≤ n) (h₁ : n < 2 ^ 64) : IntKind.u64.wrap n = n := by rw [u64w]; omega
theorem and_one_u64 (x : Int) (h0 : 0 ≤ x) (h1 : x ≤ 18446744073709551615) : bits .and .u64 x 1 = x % 2 :=
  bits_mask .u64 64 (by decide) wraps_u64 1 (by decide) x h0 (by omega)
theorem and_127_u64 (x : Int) (h0 : 0 ≤ x) (h1 : x ≤ 18446744073709551615) : bits .and .u64 x 127 = x % 128 :=
  bits_mask .u64 64 (by decide) wraps_u64 7 (by decide) x h0 (by omega)
/-- `x | 128` below 128 adds. -/
theorem or_128_u64 (x : Int) (h0 : 0 ≤ x) (h1 : x < 128) : bits .or .u64 x 128 = x + 128 := by
  have := bits_join .u64 64 (by decide) wraps_u64 7 128 x (by decide) (by decide) (by decide) h0 (by omega) (by omega)
  obtain ⟨a, rfl⟩ := Int.eq_ofNat_of_zero_le h0
  have c := (bits_nat .u64 64 (by decide) wraps_u64 a 128 (by omega) (by decide)).2
  have d := (bits_nat .u64 64 (by decide) wraps_u64 128 a (by decide) (by omega)).2
  rw [Nat.or_comm] at c
  have : bits .or .u64 (a : Int) 128 = bits .or .u64 128 (a : Int) := c.trans d.symm
  omega

theorem wf_u64 {a : Int} (h : (Lit.int .u64 a).wf = true) : 0 ≤ a ∧ a ≤ 18446744073709551615 := by
  simp [Lit.wf, IntKind.min, IntKind.max, IntKind.signed, IntKind.bits] at h; omega
theorem wf_i64 {a : Int} (h : (Lit.int .i64 a).wf = true) : -9223372036854775808 ≤ a ∧ a ≤ 9223372036854775807 := by
  simp [Lit.wf, IntKind.min, IntKind.max, IntKind.signed, IntKind.bits] at h; omega
theorem wf_u8 {a : Int} (h : (Lit.int .u8 a).wf = true) : 0 ≤ a ∧ a ≤ 255 := by
  simp [Lit.wf, IntKind.min, IntKind.max, IntKind.signed, IntKind.bits] at h; omega
theorem wf_i32 {a : Int} (h : (Lit.int .i32 a).wf = true) : -2147483648 ≤ a ∧ a ≤ 2147483647 := by
  simp [Lit.wf, IntKind.min, IntKind.max, IntKind.signed, IntKind.bits] at h; omega
theorem w64 {a : Int} (h : -9223372036854775808 ≤ a) (h' : a ≤ 9223372036854775807) : wrap64 a = a := by unfold wrap64; omega

theorem u64_tdiv {x : Int} (y : Int) (hx : 0 ≤ x) (h1 : x ≤ 18446744073709551615) (hy : 1 ≤ y) : IntKind.u64.wrap (x.tdiv y) = x / y := IntWalk.u64_quo x y ⟨hx, h1, hy⟩
end Go.Proofs.Ytpibhiacmceekaa.Bx

namespace Go.Proofs.Ytpibhiacmceekaa.Nx
open Go.RowKit Go.Proofs.Ytpibhiacmceekaa.Bx

/-- How many bits a number needs. -/
def wd (n : Nat) : Nat := if n = 0 then 0 else wd (n / 2) + 1
termination_by n
decreasing_by omega
theorem wd_zero : wd 0 = 0 := by rw [wd]; simp
theorem wd_pos {n : Nat} (h : n ≠ 0) : wd n = wd (n / 2) + 1 := by rw [wd]; simp [h]
theorem wd_le (k : Nat) : ∀ n, wd n ≤ k ↔ n < 2 ^ k := by
  induction k with
  | zero =>
    intro n
    by_cases h : n = 0
    · subst h; simp [wd_zero]
    · rw [wd_pos h]; simp; omega
  | succ k ih =>
    intro n
    by_cases h : n = 0
    · subst h; simp [wd_zero, Nat.two_pow_pos]
    · rw [wd_pos h, Nat.add_le_add_iff_right, ih, Nat.pow_succ]; omega
theorem wd_le64 (n : Nat) (h : n < 18446744073709551616) : wd n ≤ 64 := (wd_le 64 n).2 (by omega)

/-- The bytes of a number, the lowest first. -/
def leb : Nat → Int → List Int
  | 0, _ => []
  | k + 1, n => n % 256 :: leb k (n / 256)
theorem leb_length : ∀ k n, (leb k n).length = k
  | 0, _ => rfl
  | k + 1, n => by simp [leb, leb_length k]
theorem leb_range : ∀ k n, ∀ x ∈ leb k n, 0 ≤ x ∧ x ≤ 255
  | 0, _, x, h => by simp [leb] at h
  | k + 1, n, x, h => by
    simp only [leb, List.mem_cons] at h
    rcases h with rfl | h
    · omega
    · exact leb_range k _ x h
/-- The number of bytes, the lowest first. -/
def leS : List Int → Int
  | [] => 0
  | x :: l => x + 256 * leS l
theorem leS_nonneg : ∀ l : List Int, (∀ x ∈ l, 0 ≤ x ∧ x ≤ 255) → 0 ≤ leS l
  | [], _ => by simp [leS]
  | x :: l, h => by
    have := leS_nonneg l (fun y hy => h y (by simp [hy]))
    have := h x (by simp)
    simp only [leS]; omega
theorem leS_lt : ∀ l : List Int, (∀ x ∈ l, 0 ≤ x ∧ x ≤ 255) → leS l < 256 ^ l.length
  | [], _ => by simp [leS]
  | x :: l, h => by
    have := leS_lt l (fun y hy => h y (by simp [hy]))
    have := h x (by simp)
    simp only [leS, List.length_cons, Int.pow_succ]; omega
theorem leS_snoc : ∀ (l : List Int) (x : Int), leS (l ++ [x]) = leS l + 256 ^ l.length * x
  | [], x => by simp [leS]
  | y :: l, x => by
    simp only [List.cons_append, leS, leS_snoc l x, List.length_cons, Int.pow_succ]
    rw [Int.mul_add]
    have : 256 * ((256 : Int) ^ l.length * x) = 256 ^ l.length * 256 * x := by
      rw [← Int.mul_assoc, Int.mul_comm 256]
    omega
theorem leS_leb : ∀ (k : Nat) (n : Int), leS (leb k n) = n % 256 ^ k
  | 0, n => by simp [leb, leS, Int.emod_one]
  | k + 1, n => by
    simp only [leb, leS, leS_leb k]
    rw [Int.pow_succ]
    have hp : (0 : Int) < 256 ^ k := Int.pow_pos (by decide)
    generalize (256 : Int) ^ k = p at hp
    have h1 := Int.mul_ediv_add_emod n 256
    have h2 := Int.mul_ediv_add_emod (n / 256) p
    have e : n = p * 256 * (n / 256 / p) + (n % 256 + 256 * (n / 256 % p)) := by
      have : p * 256 * (n / 256 / p) = 256 * (p * (n / 256 / p)) := by rw [Int.mul_comm p 256, Int.mul_assoc]
      omega
    have r1 := Int.emod_nonneg (n / 256) (show p ≠ 0 by omega)
    have r2 := Int.emod_lt_of_pos (n / 256) hp
    have key : (n % 256 + 256 * (n / 256 % p) + p * 256 * (n / 256 / p)) % (p * 256) = n % 256 + 256 * (n / 256 % p) := by
      rw [Int.add_mul_emod_self_left]
      exact Int.emod_eq_of_lt (by omega) (by omega)
    rw [show n % 256 + 256 * (n / 256 % p) + p * 256 * (n / 256 / p) = n by omega] at key
    exact key.symm

theorem or_low_high (i : Nat) (x y : Int) (hx0 : 0 ≤ x) (hx : x < 2 ^ i) (hy0 : 0 ≤ y) (hy : y % 2 ^ i = 0) (hy1 : y < 18446744073709551616) (hx1 : x < 18446744073709551616) :
    bits .or .u64 x y = x + y := by
  have := bits_join .u64 64 (by decide) wraps_u64 i y x hy0 hy (by omega) hx0 hx (by omega)
  obtain ⟨a, rfl⟩ := Int.eq_ofNat_of_zero_le hx0
  obtain ⟨b, rfl⟩ := Int.eq_ofNat_of_zero_le hy0
  have c := (bits_nat .u64 64 (by decide) wraps_u64 a b (by omega) (by omega)).2
  have d := (bits_nat .u64 64 (by decide) wraps_u64 b a (by omega) (by omega)).2
  rw [Nat.or_comm] at c
  have : bits .or .u64 (a : Int) (b : Int) = bits .or .u64 (b : Int) (a : Int) := c.trans d.symm
  omega

/-- A list from a place on, of so many. -/
def win (l : List Int) (at_ m : Nat) : List Int := (l.drop at_).take m
theorem win_length {l : List Int} {a m : Nat} (h : a + m ≤ l.length) : (win l a m).length = m := by simp [win]; omega
theorem win_mem {l : List Int} {a m : Nat} {x : Int} (h : x ∈ win l a m) : x ∈ l := List.mem_of_mem_drop (List.mem_of_mem_take h)
theorem win_snoc {l : List Int} {a m : Nat} (h : a + m < l.length) : win l a (m + 1) = win l a m ++ [l.getD (a + m) 0] := by
  unfold win
  rw [List.take_succ_eq_append_getElem (by simp; omega)]
  simp [List.getD_eq_getElem?_getD, h]
theorem win_cons {l : List Int} {a m : Nat} (h : a < l.length) : win l a (m + 1) = l.getD a 0 :: win l (a + 1) m := by
  unfold win
  rw [List.drop_eq_getElem_cons h, List.take_succ_cons]
  simp [List.getD_eq_getElem?_getD, h]
theorem win_zero (l : List Int) (a : Nat) : win l a 0 = [] := by simp [win]
theorem win_all (l : List Int) : win l 0 l.length = l := by simp [win]
end Go.Proofs.Ytpibhiacmceekaa.Nx

namespace Go.Proofs.Ytpibhiacmceekaa.L1
set_option linter.unusedVariables false
set_option linter.unusedSimpArgs false
open Go.RowKit Go.Proofs.Ytpibhiacmceekaa.X Go.Proofs.YtpibhiacmceekaaW.PrintWords Go.Proofs.YtpibhiacmceekaaW.PrintLast Go.Proofs.YtpibhiacmceekaaW.PrintMore Go.Proofs.Ytpibhiacmceekaa.Bx Go.Proofs.Ytpibhiacmceekaa.Nx

theorem wd_step {x : Int} (h : x > 0) : wd x.toNat = wd (x / 2).toNat + 1 := by
  rw [wd_pos (by omega)]; congr 2; omega
theorem ref_width_l : ∀ (k : Nat) (x y : Int), 0 ≤ x → x ≤ 18446744073709551615 → 0 ≤ y → y + wd x.toNat ≤ 4611686018427387904 → wd x.toNat < k → marquetryref01_Width.l0 k x y = some (y + wd x.toNat)
  | 0, _, _, _, _, _, _, h => absurd h (by omega)
  | k + 1, x, y, h0, h1, h2, h3, h => by
    simp only [marquetryref01_Width.l0]
    by_cases c : x > 0
    · have e := wd_step c
      rw [if_pos c, u64_tdiv 2 h0 h1 (by omega), w64 (by omega) (by omega), ref_width_l k (x / 2) (y + 1) (by omega) (by omega) (by omega) (by omega) (by omega), e]
      congr 1; omega
    · have e : x = 0 := by omega
      subst e
      rw [if_neg (by omega)]; simp [wd_zero]
theorem width_l : ∀ (k : Nat) (x y : Int), 0 ≤ x → x ≤ 18446744073709551615 → 0 ≤ y → y + wd x.toNat ≤ 4611686018427387904 → wd x.toNat < k → bits_Width.l0 k x y = some (y + wd x.toNat)
  | 0, _, _, _, _, _, _, h => absurd h (by omega)
  | k + 1, x, y, h0, h1, h2, h3, h => by
    simp only [bits_Width.l0]
    by_cases c : x > 0
    · have e := wd_step c
      rw [if_pos c, w64 (by omega) (by omega), width_l k (x / 2) (y + 1) (by omega) (by omega) (by omega) (by omega) (by omega), e]
      congr 1; omega
    · have e : x = 0 := by omega
      subst e
      rw [if_neg (by omega)]; simp [wd_zero]
theorem ref_width {k : Nat} {x : Int} (hk : 65 ≤ k) (h0 : 0 ≤ x) (h1 : x ≤ 18446744073709551615) : marquetryref01_Width.f k x = some (wd x.toNat : Int) := by
  have := wd_le64 x.toNat (by omega)
  unfold marquetryref01_Width.f
  rw [ref_width_l k x 0 h0 h1 (by omega) (by omega) (by omega)]; congr 1; omega
theorem width {k : Nat} {x : Int} (hk : 65 ≤ k) (h0 : 0 ≤ x) (h1 : x ≤ 18446744073709551615) : bits_Width.f k x = some (wd x.toNat : Int) := by
  have := wd_le64 x.toNat (by omega)
  unfold bits_Width.f
  rw [width_l k x 0 h0 h1 (by omega) (by omega) (by omega)]; congr 1; omega

/-! ### numbers as bytes -/
def LittleR (n m : Int) : List Int × Int := if m < 0 ∨ m > 8 ∨ (m < 8 ∧ n / 2 ^ (8 * m).toNat ≠ 0) then ([], 2) else (leb m.toNat n, 0)
theorem leb_step (m i x : Int) (acc : List Int) (h : i < m) : (acc ++ [x % 256]) ++ leb (m - (i + 1)).toNat (x / 256) = acc ++ leb (m - i).toNat x := by
  obtain ⟨d, hd⟩ : ∃ d, (m - i).toNat = d + 1 := ⟨(m - i).toNat - 1, by omega⟩
  rw [hd, show (m - (i + 1)).toNat = d by omega]
  simp [leb]
theorem little_l : ∀ (k : Nat) (x : Int) (acc : List Int) (m i : Int), 0 ≤ i → i ≤ m → m ≤ 8 → acc.length + (m - i).toNat < 140737488355328 → (m - i).toNat < k → bits_Little.l0 k x acc m i = some (acc ++ leb (m - i).toNat x, 0)
  | 0, _, _, _, _, _, _, _, _, h => absurd h (by omega)
  | k + 1, x, acc, m, i, h0, h1, h2, h3, h => by
    simp only [bits_Little.l0]
    by_cases c : i < m
    · rw [if_pos c, if_pos (by omega), w64 (by omega) (by omega), little_l k _ _ m (i + 1) (by omega) (by omega) h2 (by simp; omega) (by omega), leb_step m i x acc c]
    · rw [if_neg c, show (m - i).toNat = 0 by omega]; simp [leb]
theorem ref_little_l : ∀ (k : Nat) (x : Int) (acc : List Int) (m i : Int), 0 ≤ x → x ≤ 18446744073709551615 → 0 ≤ i → i ≤ m → m ≤ 8 → acc.length + (m - i).toNat < 140737488355328 → (m - i).toNat < k → marquetryref01_Little.l0 k x m acc i = some (acc ++ leb (m - i).toNat x, 0)
  | 0, _, _, _, _, _, _, _, _, _, _, h => absurd h (by omega)
  | k + 1, x, acc, m, i, hx, hx', h0, h1, h2, h3, h => by
    simp only [marquetryref01_Little.l0]
    by_cases c : i < m
    · rw [if_pos c, if_pos (by omega), w64 (by omega) (by omega), u64_tdiv 256 hx hx' (by omega), show Int.tmod x 256 = x % 256 from Int.tmod_eq_emod_of_nonneg hx, show x % 256 % 256 = x % 256 by omega,
        ref_little_l k _ _ m (i + 1) (by omega) (by omega) (by omega) (by omega) h2 (by simp; omega) (by omega), leb_step m i x acc c]
    · rw [if_neg c, show (m - i).toNat = 0 by omega]; simp [leb]
theorem little {k : Nat} {n m : Int} (hk : 12 ≤ k) (hm : -9223372036854775808 ≤ m) (hm' : m ≤ 9223372036854775807) : bits_Little.f k n m = some (LittleR n m) := by
  obtain ⟨k, rfl⟩ : ∃ j, k = j + 1 := ⟨k - 1, by omega⟩
  unfold bits_Little.f LittleR
  simp only [bits_Little.j0]
  by_cases c0 : m < 0
  · rw [if_pos c0, if_pos trivial, if_pos (by omega)]
  rw [if_neg c0]
  by_cases c1 : m > 8
  · rw [if_pos c1, if_pos trivial, if_pos (by omega)]
  rw [if_neg c1]
  by_cases c2 : m < 8
  · rw [if_pos c2, w64 (by omega) (by omega), if_pos (by omega)]
    have e : shr .u64 n (8 * m) = n / 2 ^ (8 * m).toNat := by
      unfold shr; rw [Nat.min_eq_left (by simp [IntKind.bits]; omega)]
    rw [e]
    by_cases c3 : n / 2 ^ (8 * m).toNat = 0
    · rw [c3]; simp only [bne_self_eq_false, Bool.false_eq_true, if_false]
      rw [little_l k n [] m 0 (by omega) (by omega) (by omega) (by simp; omega) (by omega), if_neg (by omega)]
      simp
    · rw [if_pos (by simpa using c3), if_pos (by omega)]
  · rw [if_neg c2]
    simp only [Bool.false_eq_true, if_false]
    rw [little_l k n [] m 0 (by omega) (by omega) (by omega) (by simp; omega) (by omega), if_neg (by omega)]
    simp
theorem wd_gt {n m : Int} (h0 : 0 ≤ n) (h1 : 0 ≤ m) : ((wd n.toNat : Int) > m) ↔ n / 2 ^ m.toNat ≠ 0 := by
  obtain ⟨a, rfl⟩ := Int.eq_ofNat_of_zero_le h0
  obtain ⟨b, rfl⟩ := Int.eq_ofNat_of_zero_le h1
  have := wd_le b a
  have e : ((a : Int) / 2 ^ (b : Int).toNat) = ((a / 2 ^ b : Nat) : Int) := by simp
  rw [e]
  have hp := Nat.two_pow_pos b
  have := @Nat.div_eq_zero_iff_lt (2 ^ b) a hp
  constructor
  · intro h; simp at h; omega
  · intro h; simp; omega
theorem ref_little {k : Nat} {n m : Int} (hk : 66 ≤ k) (h0 : 0 ≤ n) (h1 : n ≤ 18446744073709551615) (hm : -9223372036854775808 ≤ m) (hm' : m ≤ 9223372036854775807) : marquetryref01_Little.f k n m = some (LittleR n m) := by
  obtain ⟨k, rfl⟩ : ∃ j, k = j + 1 := ⟨k - 1, by omega⟩
  unfold marquetryref01_Little.f LittleR
  simp only [marquetryref01_Little.j0]
  by_cases c0 : m < 0
  · rw [if_pos c0, if_pos trivial, if_pos (by omega)]
  rw [if_neg c0]
  by_cases c1 : m > 8
  · rw [if_pos c1, if_pos trivial, if_pos (by omega)]
  rw [if_neg c1, ref_width (by omega) h0 h1, Option.bind_some, w64 (by omega) (by omega)]
  have hw := wd_le64 n.toNat (by omega)
  have g := wd_gt h0 (show 0 ≤ 8 * m by omega)
  by_cases c3 : (wd n.toNat : Int) > 8 * m
  · have c4 := g.1 c3
    rw [if_pos (by simpa using c3), if_pos (by omega)]
  · have c4 : n / 2 ^ (8 * m).toNat = 0 := by
      by_cases q : n / 2 ^ (8 * m).toNat = 0
      · exact q
      · exact absurd (g.2 q) c3
    rw [if_neg (by simpa using c3), ref_little_l k n [] m 0 h0 h1 (by omega) (by omega) (by omega) (by simp; omega) (by omega), if_neg (by omega)]
    simp

/-! ### numbers of bytes -/
def ReadLittleR (b : List Int) (a m : Int) : Int × Int := if m < 0 ∨ m > 8 ∨ a < 0 ∨ a > b.length then (0, 2) else if m > b.length - a then (0, 6) else (leS (win b a.toNat m.toNat), 0)
theorem getD_range {b : List Int} (hb : ∀ x ∈ b, 0 ≤ x ∧ x ≤ 255) (i : Nat) : 0 ≤ b.getD i 0 ∧ b.getD i 0 ≤ 255 := by
  rw [List.getD_eq_getElem?_getD]
  by_cases h : i < b.length
  · rw [List.getElem?_eq_getElem h]; exact hb _ (List.getElem_mem h)
  · rw [List.getElem?_eq_none (by omega)]; simp
theorem leS_win_lt {b : List Int} (hb : ∀ x ∈ b, 0 ≤ x ∧ x ≤ 255) {a m : Nat} (h : a + m ≤ b.length) : 0 ≤ leS (win b a m) ∧ leS (win b a m) < 256 ^ m := by
  have h1 := leS_nonneg (win b a m) (fun x hx => hb x (win_mem hx))
  have h2 := leS_lt (win b a m) (fun x hx => hb x (win_mem hx))
  rw [win_length h] at h2
  exact ⟨h1, h2⟩
theorem pow256 (i : Nat) : (256 : Int) ^ i = 2 ^ (8 * i) := by rw [Int.pow_mul]; rfl
theorem pow256_le {i j : Nat} (h : i ≤ j) : (256 : Int) ^ i ≤ 256 ^ j := by
  have h2 : ((256 ^ i : Nat) : Int) ≤ ((256 ^ j : Nat) : Int) := Int.ofNat_le.2 (Nat.pow_le_pow_right (by decide) h)
  rw [Int.natCast_pow, Int.natCast_pow] at h2
  exact h2
theorem read_step {b : List Int} (hb : ∀ x ∈ b, 0 ≤ x ∧ x ≤ 255) (a i : Nat) (h : a + i < b.length) (hi : i < 8) :
    bits .or .u64 (leS (win b a i)) (shl .u64 (IntKind.u64.wrap (b.getD (a + i) 0)) (8 * i : Nat)) = leS (win b a (i + 1)) := by
  obtain ⟨h1, h2⟩ := leS_win_lt hb (show a + i ≤ b.length by omega)
  obtain ⟨r1, r2⟩ := getD_range hb (a + i)
  have hp : (256 : Int) ^ (i + 1) ≤ 256 ^ 8 := pow256_le (by omega)
  have h8 : (256 : Int) ^ 8 = 18446744073709551616 := by decide
  have hs : b.getD (a + i) 0 * 256 ^ i < 256 ^ (i + 1) := by
    rw [Int.pow_succ, Int.mul_comm]
    exact Int.mul_lt_mul_of_pos_left (by omega) (Int.pow_pos (by decide))
  have hs0 : 0 ≤ b.getD (a + i) 0 * 256 ^ i := Int.mul_nonneg r1 (Int.le_of_lt (Int.pow_pos (by decide)))
  have e : shl .u64 (IntKind.u64.wrap (b.getD (a + i) 0)) (8 * i : Nat) = b.getD (a + i) 0 * 256 ^ i := by
    unfold shl
    rw [u64w, u64w, Int.emod_eq_of_lt r1 (by omega), Nat.min_eq_left (by simp [IntKind.bits]; omega), show ((8 * i : Nat) : Int).toNat = 8 * i by omega, ← pow256]
    exact Int.emod_eq_of_lt hs0 (by omega)
  rw [e, win_snoc h, leS_snoc, win_length (by omega), or_low_high (8 * i) _ _ h1 (by rw [← pow256]; exact h2) hs0 (by rw [← pow256]; exact Int.mul_emod_left _ _) (by omega) (by have := pow256_le (show i ≤ 8 by omega); omega), Int.mul_comm]
theorem read_l : ∀ (k : Nat) (b : List Int) (a m i : Int), (∀ x ∈ b, 0 ≤ x ∧ x ≤ 255) → b.length ≤ 9223372036854775000 → 0 ≤ a → 0 ≤ i → i ≤ m → m ≤ 8 → a + m ≤ b.length → (m - i).toNat < k →
    bits_ReadLittle.l0 k b a (leS (win b a.toNat i.toNat)) m i = some (leS (win b a.toNat m.toNat), 0)
  | 0, _, _, _, _, _, _, _, _, _, _, _, h => absurd h (by omega)
  | k + 1, b, a, m, i, hb, hl, h0, h1, h2, h3, h4, h => by
    simp only [bits_ReadLittle.l0]
    by_cases c : i < m
    · rw [if_pos c, w64 (by omega) (by omega), if_pos (by omega), if_pos (by omega), w64 (by omega) (by omega), if_pos (by omega), w64 (by omega) (by omega)]
      have e := read_step hb a.toNat i.toNat (by omega) (by omega)
      rw [show ((8 * i.toNat : Nat) : Int) = 8 * i by omega] at e
      have e2 : rd b (a + i) = b.getD (a.toNat + i.toNat) 0 := by unfold rd; congr 1; omega
      rw [e2, e, show i.toNat + 1 = (i + 1).toNat by omega]
      exact read_l k b a m (i + 1) hb hl h0 (by omega) (by omega) h3 h4 (by omega)
    · rw [if_neg c, show i = m by omega]
theorem readLittle {k : Nat} {b : List Int} {a m : Int} (hk : 12 ≤ k) (hb : ∀ x ∈ b, 0 ≤ x ∧ x ≤ 255) (hl : b.length ≤ 9223372036854775000) (ha : a ≤ 9223372036854775807) : bits_ReadLittle.f k b a m = some (ReadLittleR b a m) := by
  obtain ⟨k, rfl⟩ : ∃ j, k = j + 1 := ⟨k - 1, by omega⟩
  unfold bits_ReadLittle.f ReadLittleR
  simp only [bits_ReadLittle.j0]
  by_cases c0 : m < 0
  · rw [if_pos c0, if_pos trivial, if_pos (by omega)]
  rw [if_neg c0]
  by_cases c1 : m > 8
  · rw [if_pos c1, if_pos trivial, if_pos (by omega)]
  rw [if_neg c1]
  by_cases c2 : a < 0
  · rw [if_pos c2, if_pos trivial, if_pos (by omega)]
  rw [if_neg c2]
  by_cases c3 : a > (b.length : Int)
  · rw [if_pos (by simpa using c3), if_pos (by omega)]
  rw [if_neg (by simpa using c3), w64 (by omega) (by omega)]
  by_cases c4 : m > (b.length : Int) - a
  · rw [if_pos c4, if_neg (by omega), if_pos c4]
  rw [if_neg c4, if_neg (by omega), if_neg c4]
  have := read_l k b a m 0 hb hl (by omega) (by omega) (by omega) (by omega) (by omega) (by omega)
  rwa [show (0 : Int).toNat = 0 from rfl, win_zero] at this
theorem ref_read_l : ∀ (k : Nat) (b : List Int) (a m i : Int), (∀ x ∈ b, 0 ≤ x ∧ x ≤ 255) → b.length ≤ 9223372036854775000 → 0 ≤ a → -1 ≤ i → i < m → m ≤ 8 → a + m ≤ b.length → (i + 1).toNat < k →
    marquetryref01_ReadLittle.l0 k b a (leS (win b (a + i + 1).toNat (m - i - 1).toNat)) i = some (leS (win b a.toNat m.toNat), 0)
  | 0, _, _, _, _, _, _, _, _, _, _, _, h => absurd h (by omega)
  | k + 1, b, a, m, i, hb, hl, h0, h1, h2, h3, h4, h => by
    simp only [marquetryref01_ReadLittle.l0]
    by_cases c : i ≥ 0
    · rw [if_pos c, w64 (by omega) (by omega), if_pos (by omega), if_pos (by omega), w64 (by omega) (by omega)]
      obtain ⟨r1, r2⟩ := getD_range hb (a + i).toNat
      obtain ⟨q1, q2⟩ := leS_win_lt hb (show (a + i + 1).toNat + (m - i - 1).toNat ≤ b.length by omega)
      have e := win_cons (l := b) (a := (a + i).toNat) (m := (m - i - 1).toNat) (by omega)
      have e2 : rd b (a + i) = b.getD (a + i).toNat 0 := rfl
      have hp := pow256_le (show (m - i - 1).toNat ≤ 7 by omega)
      have h7 : (256 : Int) ^ 7 = 72057594037927936 := by decide
      have e3 : IntKind.u64.wrap ((IntKind.u64.wrap (leS (win b (a + i + 1).toNat (m - i - 1).toNat) * 256)) + (IntKind.u64.wrap (rd b (a + i)))) = leS (win b (a + (i - 1) + 1).toNat (m - (i - 1) - 1).toNat) := by
        rw [show (a + (i - 1) + 1).toNat = (a + i).toNat by omega, show (m - (i - 1) - 1).toNat = (m - i - 1).toNat + 1 by omega, e, leS, u64w, u64w, u64w, e2, show (a + i).toNat + 1 = (a + i + 1).toNat by omega]
        omega
      rw [e3]
      exact ref_read_l k b a m (i - 1) hb hl h0 (by omega) (by omega) h3 h4 (by omega)
    · rw [if_neg c, show i = -1 by omega]
      rw [show (a + -1 + 1).toNat = a.toNat by omega, show (m - -1 - 1).toNat = m.toNat by omega]
theorem ref_readLittle {k : Nat} {b : List Int} {a m : Int} (hk : 12 ≤ k) (hb : ∀ x ∈ b, 0 ≤ x ∧ x ≤ 255) (hl : b.length ≤ 9223372036854775000) (ha : a ≤ 9223372036854775807) : marquetryref01_ReadLittle.f k b a m = some (ReadLittleR b a m) := by
  obtain ⟨k, rfl⟩ : ∃ j, k = j + 1 := ⟨k - 1, by omega⟩
  unfold marquetryref01_ReadLittle.f ReadLittleR
  simp only [marquetryref01_ReadLittle.j0]
  by_cases c0 : m < 0
  · rw [if_pos c0, if_pos trivial, if_pos (by omega)]
  rw [if_neg c0]
  by_cases c1 : m > 8
  · rw [if_pos c1, if_pos trivial, if_pos (by omega)]
  rw [if_neg c1]
  by_cases c2 : a < 0
  · rw [if_pos c2, if_pos trivial, if_pos (by omega)]
  rw [if_neg c2]
  by_cases c3 : a > (b.length : Int)
  · rw [if_pos (by simpa using c3), if_pos (by omega)]
  rw [if_neg (by simpa using c3), w64 (by omega) (by omega)]
  by_cases c4 : m > (b.length : Int) - a
  · rw [if_pos c4, if_neg (by omega), if_pos c4]
  rw [if_neg c4, if_neg (by omega), if_neg c4, w64 (by omega) (by omega)]
  have := ref_read_l k b a m (m - 1) hb hl (by omega) (by omega) (by omega) (by omega) (by omega) (by omega)
  rwa [show (m - (m - 1) - 1).toNat = 0 by omega, win_zero] at this
end Go.Proofs.Ytpibhiacmceekaa.L1

namespace Go.Proofs.Ytpibhiacmceekaa.X
open Go.RowKit Go.Proofs.YtpibhiacmceekaaW.PrintWords Go.Proofs.YtpibhiacmceekaaW.PrintLast Go.Proofs.YtpibhiacmceekaaW.PrintMore
set_option linter.unusedVariables false
set_option linter.unusedSimpArgs false

/-- The table, filled up to j. -/
def wrow (V : Nat → Int) (j : Nat) : Array Value := ((List.range 256).map fun i => Value.int .i64 (if i < j then V i else 0)).toArray
theorem wrow_size (V : Nat → Int) (j : Nat) : (wrow V j).size = 256 := by simp [wrow]
theorem wrow_get (V : Nat → Int) (j i : Nat) (h : i < 256) : (wrow V j)[i]? = some (.int .i64 (if i < j then V i else 0)) := by simp [wrow, h]
theorem wrow_one (V : Nat → Int) (j : Nat) : (wrow V j).all (·.oneCell') = true := by
  unfold wrow
  rw [List.all_toArray, List.all_eq_true]
  intro x hx
  obtain ⟨i, _, rfl⟩ := List.mem_map.1 hx
  rfl
theorem wrow_set (V : Nat → Int) (j : Nat) (h : j < 256) : (wrow V j).setIfInBounds j (.int .i64 (V j)) = wrow V (j + 1) := by
  apply Array.ext (by simp [wrow])
  intro i h1 h2
  have hi : i < 256 := by simpa [wrow] using h2
  rw [Array.getElem_setIfInBounds (by rw [wrow_size]; exact hi)]
  simp only [wrow, List.getElem_toArray, List.getElem_map, List.getElem_range]
  by_cases c : j = i
  · subst c; rw [if_pos rfl, if_pos (by omega)]
  · rw [if_neg c]
    by_cases d : i < j
    · rw [if_pos d, if_pos (by omega)]
    · rw [if_neg d, if_neg (by omega)]
set_option maxHeartbeats 1000000 in
set_option maxRecDepth 100000 in
theorem lv_widths (k : Nat) (V : Nat → Int) (hV : ∀ i : Nat, i < 256 → bits_Width.f k (i : Int) = some (V i)) (w : World) :
    Calls Try.prog 47 #[] w fun e w' => e = .returned (.agg (wrow V 256)) ∧ Below w.heap.size w w' := by
  have HV := Aside0.mk hV
  clear hV
  go_enter Try.func47, Try.ntmps47
  go_wp2
  have hz : Try.zeroCells70 = wrow V 0 := by kernel_rfl
  go_loopw [3] (fun v3 w' => ∃ j : Nat, v3 = .int .i64 j ∧ j ≤ 256 ∧ Aside0 (w'.heap[w.heap.size]? = some (.cells (wrow V 0) 70 (0, 0))) ∧ Aside0 (w'.heap[w.heap.size + 1]? = some (.cells (wrow V j) 70 (0, 0))) ∧ Aside0 (Below w.heap.size w w')) (fun v3 w' => 256 - (intOf v3).toNat)
  case atStart => exact ⟨0, rfl, by omega, ⟨by rw [hz]; exact blk_alloc (blk_new _ _) _⟩, ⟨by rw [hz]; have := blk_new (w.alloc (.cells (wrow V 0) 70)) (.cells (wrow V 0) 70); rwa [World.size_alloc] at this⟩, ⟨below_alloc (below_alloc (Below.refl _ _) _) _⟩⟩
  case round =>
    clear hz
    obtain ⟨j, rfl, hj, HG0, HG1, HB⟩ := hrel
    by_cases hlt : j < 256
    · have HW := Aside0.mk (fun W => bits_Width.calls k (j : Int) (V j) W (HV.out j hlt))
      have hjb := decide_eq_true (show (j : Int) < 256 by omega)
      go_wp2_with fail
      refine (HW.out _).mono ?_
      rintro e W1 ⟨rfl, ⟨nd, rfl⟩⟩
      have hc : (wr.drewN nd).cell? ⟨w.heap.size + 1, j, none⟩ = some (.int .i64 0) := by
        have := blk_cell (blk_drewN HG1.out nd) j
        rw [this, wrow_get V j j hlt, if_neg (by omega)]
      have hf : (wr.drewN nd).frozen? ⟨w.heap.size + 1, j, none⟩ = false := blk_frozen (blk_drewN HG1.out nd) j
      clear HW
      go_wp2
      go_roundw
      case rel => exact ⟨j + 1, by go_num, by omega, ⟨blk_far (blk_drewN HG0.out nd) (by simp) _⟩, ⟨by have := blk_set (blk_drewN HG1.out nd) j (.int .i64 (V j)); rwa [wrow_set V j hlt] at this⟩, ⟨(pw_below_drewN HB.out nd).setCell (p := ⟨w.heap.size + 1, j, none⟩) (by simp) _⟩⟩
      case measure => simp [intOf]; omega
    · have hjb := decide_eq_false (show ¬ (j : Int) < 256 by omega)
      have HG1' := Aside0.mk (show wr.heap[w.heap.size + 1]? = some (.cells (wrow V 256) 70 (0, 0)) by have := HG1.out; rwa [show j = 256 by omega] at this)
      clear HG1 hlt
      go_wp2_with (first | (refine wpList_load_row rfl _ _ rfl (w.heap.size + 1) rfl 70 (wrow V 256) (0, 0) _ HG1'.out Try.underlying70 rfl ?hi ?_; case hi => rw [wrow_size]; kernel_rfl) | (refine wpList_store_row rfl 70 (.tmp 0) (.tmp 12) rfl w.heap.size (wrow V 256) rfl rfl 70 (wrow V 0) HG0.out ?hj ?hk (wrow_one V 256) ?_; (case hj => rw [wrow_size]; kernel_rfl); (case hk => rw [wrow_size, wrow_size])))
      refine bodyPost_ret (v := .agg (wrow V 256)) ?hr rfl ⟨rfl, ?hb⟩
      case hr => exact results_cell_row rfl _ _ w.heap.size 70 (wrow V 256) (0, 0) _ rfl (setRow_heap _ _ _ _ _ _ HG0.out) Try.underlying70 rfl (by rw [wrow_size]; kernel_rfl)
      case hb => exact below_setRow HB.out (Nat.le_refl _) _
/-- The whole table. -/
def lvTab : Array Value := wrow (fun i => ((Nx.wd i : Nat) : Int)) 256
theorem lvTab_get (i : Nat) (h : i < 256) : lvTab[i]? = some (.int .i64 ((Nx.wd i : Nat) : Int)) := by
  have := wrow_get (fun i => ((Nx.wd i : Nat) : Int)) 256 i h
  rwa [if_pos h] at this
theorem lvTab_size : lvTab.size = 256 := wrow_size _ _
theorem lv_table (w : World) : Calls Try.prog 47 #[] w fun e w' => e = .returned (.agg lvTab) ∧ Below w.heap.size w w' :=
  lv_widths 65 (fun i => ((Nx.wd i : Nat) : Int)) (fun i hi => by
    have := L1.width (k := 65) (x := (i : Int)) (Nat.le_refl _) (by omega) (by omega)
    simpa using this) w
theorem lv_index (m : Nat) (h : m < 256) (w : World) : (Instr.index 70 (.agg lvTab) (.int .i64 (m : Int))).run Try.prog w = .ok (.int .i64 ((Nx.wd m : Nat) : Int)) w := by
  have hg := lvTab_get m h
  have hs : (Try.prog.info? 3).map (·.size) = some 1 := by kernel_rfl
  cases hq : Try.prog.info? 3 with
  | none => simp [hq] at hs
  | some i =>
    have hs1 : i.size = 1 := by simpa [hq] using hs
    unfold Instr.index
    simp [Sem.run_bind, asIntOf, run_underlying Try.underlying70, sizeOf, typeInfo, hq, hs1]
    rw [if_pos h]
    simp [part, isAgg, Sem.run_bind, run_underlying Try.underlying3, hg]
end Go.Proofs.Ytpibhiacmceekaa.X

namespace Go.Proofs.Ytpibhiacmceekaa.X
open Go.RowKit Go.Proofs.YtpibhiacmceekaaW.PrintWords Go.Proofs.YtpibhiacmceekaaW.PrintLast Go.Proofs.YtpibhiacmceekaaW.PrintMore
attribute [local go_sem] max2_int min2_int max_two min_two max_three min_three max_four min_four   -- for this text's walks alone
set_option linter.unusedVariables false
set_option linter.unusedSimpArgs false

/-! ### levels_Write: function 23 (by hand): a goto, a table -/
def lwBad (m x : Int) : Bool := decide (x < 0) || decide (m < x)
def levels_Write.f (k : Nat) (a0 : Int) (l1 : List Int) : Option (List Int × Int) :=
 if a0 < 0 then some ([], 2) else if 255 < a0 then some ([], 2) else if l1.any (lwBad a0) = true then some ([], 2) else if 65536 < (l1.length : Int) then some ([], 3) else if a0 = 0 then some ([], 0) else
  hybrid_Write.f k ((Nx.wd a0.toNat : Nat) : Int) l1
theorem levels_Write.mono : ∀ a0 l1 k, LeO (levels_Write.f k a0 l1) (levels_Write.f (k + 1) a0 l1) := by
 intro a0 l1 k
 unfold levels_Write.f
 exact LeO.ite (LeO.refl _) (LeO.ite (LeO.refl _) (LeO.ite (LeO.refl _) (LeO.ite (LeO.refl _) (LeO.ite (LeO.refl _) (hybrid_Write.mono _ _ _)))))
def lwOk (m : Int) : Bool := decide (0 ≤ m) && decide (m ≤ 255)
set_option maxHeartbeats 400000 in
theorem lw_right (m : Int) (w : World) : Calls Try.prog 46 #[.int .i64 m] w fun e w' => e = .returned (.bool (lwOk m)) ∧ w' = w := by
 by_cases c : 0 ≤ m
 ·have cb : decide (0 ≤ m) = true := decide_eq_true c
  have hr := Aside0.mk (show lwOk m = decide (m ≤ 255) by unfold lwOk; rw [cb]; rfl)
  clear c
  go_enter Try.func46, Try.ntmps46
  go_wp2
  go_ret
  exact ⟨by rw [hr.out]; rfl, rfl⟩
 ·have cb : decide (0 ≤ m) = false := decide_eq_false c
  have hr := Aside0.mk (show lwOk m = false by unfold lwOk; rw [cb]; rfl)
  clear c
  go_enter Try.func46, Try.ntmps46
  go_wp2
  go_ret
  exact ⟨by rw [hr.out]; rfl, rfl⟩
def LwEnd (w : World) (r1 : List Int) (r2 : Int) (e : Ending) (w' : World) : Prop := ∃ v0_ : Value, e = .returned (.tuple #[v0_, .int .i64 r2]) ∧ Kd.R (Kd.int .u8) 5 w' w.heap.size (fun _ => True) v0_ r1 ∧ Below w.heap.size w w'
theorem lw_end_nil {w w' : World} {r2 : Int} (h : Below w.heap.size w w') : LwEnd w [] r2 (.returned (.tuple #[.slice none 0 0, .int .i64 r2])) w' := ⟨_, rfl, Kd.R_nil _ _ _ _ _, h⟩
/-- At the jump: the refusal stands in its place. -/
def LwJ (w : World) (r2 : Int) (a' : Act) (w' : World) : Prop := (∃ u0 u1 u2 u3 u4 u6 u7 u8 u9 u10 u11 u12 u13 u14 u15 u16 u17 u18 u19 u20 u21 u22 u23 u24 u25 u26 u27 u28 u29 u30 u31 u32 u33 u34 u35 u36 u37 : Value, a' = { tmps := #[u0, u1, u2, u3, u4, .int .i64 r2, u6, u7, u8, u9, u10, u11, u12, u13, u14, u15, u16, u17, u18, u19, u20, u21, u22, u23, u24, u25, u26, u27, u28, u29, u30, u31, u32, u33, u34, u35, u36, u37], defers := [] }) ∧ Below w.heap.size w w'
theorem lw_drop {l : List Int} {i : Nat} (h : i < l.length) : l.drop i = l.getD i 0 :: l.drop (i + 1) := by
 rw [List.drop_eq_getElem_cons h, List.getD_eq_getElem?_getD, List.getElem?_eq_getElem h]; rfl
set_option maxHeartbeats 4000000 in
set_option maxRecDepth 100000 in
theorem lw_walk (k : Nat) (A1 : Option Addr) (c1 : Nat) (l1 : List Int) (a0 : Int) (r1 : List Int) (r2 : Int) (w : World) (hr1 : Kd.C (Kd.int .i64) w A1 l1.length l1) (hc1 : l1.length ≤ c1) (h : levels_Write.f k a0 l1 = some (r1, r2)) :
  Calls Try.prog 23 #[.int .i64 a0, .slice A1 l1.length c1] w (LwEnd w r1 r2) := by
 have HR := Aside0.mk hr1
 have hl : l1.length ≤ 9223372036854775807 := hr1.2.1
 have HC := Aside0.mk (fun W => lw_right a0 W)
 have hh := Aside0.mk h
 clear h hr1
 go_enter Try.func23, Try.ntmps23
 go_wp2
 refine wp_scope_jumps 0 (fun a' w' => r1 = [] ∧ LwJ w r2 a' w') (fun _ _ => 0) rfl ?_ ?_
 rotate_left 1
 ·rintro a' w' ⟨rfl, ⟨u0, u1, u2, u3, u4, u6, u7, u8, u9, u10, u11, u12, u13, u14, u15, u16, u17, u18, u19, u20, u21, u22, u23, u24, u25, u26, u27, u28, u29, u30, u31, u32, u33, u34, u35, u36, u37, rfl⟩, hB⟩
  have HB := Aside0.mk hB
  clear hB hh
  go_wp2
  simp only [Exit.jump]
  go_ret2
  exact lw_end_nil HB.out
 ·by_cases c : a0 < 0
  ·have hok : lwOk a0 = false := by unfold lwOk; rw [decide_eq_false (show ¬ 0 ≤ a0 by omega)]; rfl
   have hk := Aside0.mk hok
   have h := hh.out
   unfold levels_Write.f at h
   rw [if_pos c] at h
   have hr := Aside0.mk (show [] = r1 ∧ 2 = r2 by simpa using h)
   clear h hh hok c
   go_wp2_with fail
   refine (HC.out _).mono ?_
   rw [hk.out]
   rintro e W1 ⟨rfl, rfl⟩
   go_wp2
   go_step3
   obtain ⟨rfl, rfl⟩ := hr.out
   exact ⟨rfl, rfl, ⟨_, _, _, _, _, _, _, _, _, _, _, _, _, _, _, _, _, _, _, _, _, _, _, _, _, _, _, _, _, _, _, _, _, _, _, _, _, rfl⟩, Below.refl _ _⟩
  by_cases c2 : 255 < a0
  ·have hok : lwOk a0 = false := by unfold lwOk; rw [decide_eq_false (show ¬ a0 ≤ 255 by omega), Bool.and_false]
   have hk := Aside0.mk hok
   have h := hh.out
   unfold levels_Write.f at h
   rw [if_neg c, if_pos c2] at h
   have hr := Aside0.mk (show [] = r1 ∧ 2 = r2 by simpa using h)
   clear h hh hok c c2
   go_wp2_with fail
   refine (HC.out _).mono ?_
   rw [hk.out]
   rintro e W1 ⟨rfl, rfl⟩
   go_wp2
   go_step3
   obtain ⟨rfl, rfl⟩ := hr.out
   exact ⟨rfl, rfl, ⟨_, _, _, _, _, _, _, _, _, _, _, _, _, _, _, _, _, _, _, _, _, _, _, _, _, _, _, _, _, _, _, _, _, _, _, _, _, rfl⟩, Below.refl _ _⟩
  have hok : lwOk a0 = true := by unfold lwOk; rw [decide_eq_true (show 0 ≤ a0 by omega), decide_eq_true (show a0 ≤ 255 by omega)]; rfl
  have hk := Aside0.mk hok
  have h := hh.out
  unfold levels_Write.f at h
  rw [if_neg c, if_neg c2] at h
  have hm0 : 0 ≤ a0 := by omega
  have hm1 : a0 ≤ 255 := by omega
  have HH := Aside0.mk h
  clear h hh hok c c2
  go_wp2_with fail
  refine (HC.out _).mono ?_
  rw [hk.out]
  rintro e W1 ⟨rfl, rfl⟩
  clear HC hk
  go_wp2
  go_loopw [13] (fun v13 w' => ∃ (j : Nat), v13 = .int .i64 j ∧ j ≤ l1.length ∧ Aside0 (l1.any (lwBad a0) = (l1.drop j).any (lwBad a0)) ∧ w' = W1) (fun v13 w' => l1.length - (intOf v13).toNat)
  case atStart => exact ⟨0, rfl, Nat.zero_le _, ⟨rfl⟩, rfl⟩
  case round =>
   obtain ⟨j, rfl, hj, HA, rfl⟩ := hrel
   by_cases hlt : j < l1.length
   ·have hA := HA.out
    rw [lw_drop hlt, List.any_cons] at hA
    obtain ⟨ad, rfl, hcell⟩ := c_at HR.out (j : Int) (by omega) (by omega)
    have e : rd l1 (j : Int) = l1.getD j 0 := rfl
    rw [e, show ((j : Int)).toNat = j from rfl] at hcell
    obtain ⟨x, hx⟩ : ∃ x, x = l1.getD j 0 := ⟨_, rfl⟩
    rw [← hx] at hcell hA
    clear e hx HA
    by_cases b1 : x < 0
    ·have hb1 := decide_eq_true b1
     have h := HH.out
     rw [if_pos (by rw [hA]; unfold lwBad; rw [hb1]; rfl)] at h
     have hr := Aside0.mk (show [] = r1 ∧ 2 = r2 by simpa using h)
     clear h hA b1
     go_wp2
     go_step3
     obtain ⟨rfl, rfl⟩ := hr.out
     exact ⟨rfl, rfl, ⟨_, _, _, _, _, _, _, _, _, _, _, _, _, _, _, _, _, _, _, _, _, _, _, _, _, _, _, _, _, _, _, _, _, _, _, _, _, rfl⟩, Below.refl _ _⟩
    ·have hb1 := decide_eq_false b1
     by_cases b2 : a0 < x
     ·have hb2 := decide_eq_true b2
      have h := HH.out
      rw [if_pos (by rw [hA]; unfold lwBad; rw [hb1, hb2]; rfl)] at h
      have hr := Aside0.mk (show [] = r1 ∧ 2 = r2 by simpa using h)
      clear h hA b1 b2
      go_wp2
      go_step3
      obtain ⟨rfl, rfl⟩ := hr.out
      exact ⟨rfl, rfl, ⟨_, _, _, _, _, _, _, _, _, _, _, _, _, _, _, _, _, _, _, _, _, _, _, _, _, _, _, _, _, _, _, _, _, _, _, _, _, rfl⟩, Below.refl _ _⟩
     ·have hb2 := decide_eq_false b2
      have HA' := Aside0.mk (show l1.any (lwBad a0) = (l1.drop (j + 1)).any (lwBad a0) by rw [hA]; unfold lwBad; rw [hb1, hb2]; rfl)
      clear hA b1 b2
      go_wp2
      go_roundw
      case rel => exact ⟨j + 1, by go_num, by omega, HA', trivial⟩
      case measure => simp [intOf]; omega
   ·have hA := HA.out
    rw [List.drop_eq_nil_of_le (by omega)] at hA
    have h := HH.out
    rw [if_neg (by rw [hA]; simp)] at h
    clear hA HA HH
    by_cases c3 : 65536 < (l1.length : Int)
    ·have hc3 := decide_eq_true c3
     rw [if_pos c3] at h
     have hr := Aside0.mk (show [] = r1 ∧ 3 = r2 by simpa using h)
     clear h c3
     go_wp2
     go_step3
     obtain ⟨rfl, rfl⟩ := hr.out
     exact ⟨rfl, rfl, ⟨_, _, _, _, _, _, _, _, _, _, _, _, _, _, _, _, _, _, _, _, _, _, _, _, _, _, _, _, _, _, _, _, _, _, _, _, _, rfl⟩, Below.refl _ _⟩
    have hc3 := decide_eq_false c3
    rw [if_neg c3] at h
    by_cases c4 : a0 = 0
    ·have hc4 : (a0 == 0) = true := by simp [c4]
     rw [if_pos c4] at h
     have hr := Aside0.mk (show [] = r1 ∧ 0 = r2 by simpa using h)
     clear h c3 c4
     go_wp2
     simp only [Exit.jump]
     go_ret2
     obtain ⟨rfl, rfl⟩ := hr.out
     exact lw_end_nil (Below.refl _ _)
    have hc4 : (a0 == 0) = false := by simp [c4]
    rw [if_neg c4] at h
    have HH := Aside0.mk h
    have HT := Aside0.mk (fun W => lv_table W)
    obtain ⟨m, rfl⟩ := Int.eq_ofNat_of_zero_le hm0
    have ht := fun W => lv_index m (by omega) W
    have HH' := Aside0.mk (fun W hv => hybrid_Write.calls k ((Nx.wd m : Nat) : Int) (fun _ => True) A1 c1 l1 r1 r2 W hv HH.out)
    clear h c3 c4 HH
    obtain ⟨wm, hwm⟩ : ∃ x : Int, x = ((Nx.wd m : Nat) : Int) := ⟨_, rfl⟩
    rw [← hwm] at ht HH'
    clear hwm
    go_wp2_with fail
    refine (HT.out _).mono ?_
    rintro e W2 ⟨rfl, hB⟩
    have HB := Aside0.mk hB
    clear hB HT
    go_wp2_with fail
    refine (HH'.out W2 (v_of_c (Kd.C_below HR.out HB.out) hc1)).mono ?_
    rintro e W3 ⟨v0, rfl, hR, hB⟩
    have HB3 := Aside0.mk (HB.out.trans (hB.mono HB.out.size))
    have HR3 := Aside0.mk (Kd.R_lower (Kd.R_mono hR (fun _ _ => trivial)) HB.out.size : Kd.R (Kd.int .u8) 5 W3 _ (fun _ => True) v0 r1)
    clear hR hB HB HH' ht
    go_wp2
    simp only [Exit.jump]
    go_ret2
    exact ⟨_, rfl, HR3.out, HB3.out⟩
theorem levels_Write.calls (k : Nat) (a0 : Int) (A1 : Option Addr) (c1 : Nat) (l1 : List Int) (r1 : List Int) (r2 : Int) (w : World) (hr1 : Kd.C (Kd.int .i64) w A1 l1.length l1) (hc1 : l1.length ≤ c1) (h : levels_Write.f k a0 l1 = some (r1, r2)) :
  Calls Try.prog 23 #[.int .i64 a0, .slice A1 l1.length c1] w fun e w' => ∃ v0_ : Value, e = .returned (.tuple #[v0_, .int .i64 r2]) ∧ Kd.R (Kd.int .u8) 5 w' w.heap.size (fun _ => True) v0_ r1 ∧ Below w.heap.size w w' :=
 lw_walk k A1 c1 l1 a0 r1 r2 w hr1 hc1 h

end Go.Proofs.Ytpibhiacmceekaa.X

namespace Go.Proofs.Ytpibhiacmceekaa.X
open Go.RowKit Go.Proofs.YtpibhiacmceekaaW.PrintWords Go.Proofs.YtpibhiacmceekaaW.PrintLast Go.Proofs.YtpibhiacmceekaaW.PrintMore

/-- Operations that call nothing and put nothing off. -/
def plainOp : Op → Bool
  | .move _ | .assign _ | .load _ _ | .store _ _ _ | .binOp _ _ _ _ _ | .unOp _ _ _ | .convert _ _ _ | .indexAddr _ _ _ | .fieldAddr _ _ _ => true
  | _ => false
theorem plain_run {P : Program} {o : Oper} (h : plainOp o.op = true) (ρ : Operand → Value) (w : World) :
    (∃ v w', (execOp ρ o).run P w = .ok (.value v) w') ∨ (∃ w', (execOp ρ o).run P w = .ok .skip w') ∨ ∃ e w', (execOp ρ o).run P w = .halt e w' := by
  have val : ∀ s : Sem Value, (∃ v w', (do pure (Next.value (← s)) : Sem Next).run P w = .ok (.value v) w') ∨ (∃ w', (do pure (Next.value (← s)) : Sem Next).run P w = .ok .skip w') ∨ ∃ e w', (do pure (Next.value (← s)) : Sem Next).run P w = .halt e w' := by
    intro s
    cases hs : s.run P w with
    | ok a w' => exact .inl ⟨a, w', by simp [go_sem, hs]⟩
    | halt e w' => exact .inr (.inr ⟨e, w', by simp [go_sem, hs]⟩)
  have unit : ∀ s : Sem Unit, (∃ v w', (do s; pure Next.skip : Sem Next).run P w = .ok (.value v) w') ∨ (∃ w', (do s; pure Next.skip : Sem Next).run P w = .ok .skip w') ∨ ∃ e w', (do s; pure Next.skip : Sem Next).run P w = .halt e w' := by
    intro s
    cases hs : s.run P w with
    | ok a w' => exact .inr (.inl ⟨w', by simp [go_sem, hs]⟩)
    | halt e w' => exact .inr (.inr ⟨e, w', by simp [go_sem, hs]⟩)
  unfold execOp
  cases ho : o.op <;> rw [ho] at h <;> simp [plainOp] at h <;> simp only <;> first | exact val _ | exact unit _ | exact .inl ⟨_, _, rfl⟩
theorem plain_about {P : Program} {o : Oper} (h : plainOp o.op = true) (ρ : Operand → Value) (w : World) : o.about P w ρ = none := by
  unfold Oper.about
  cases ho : o.op <;> rw [ho] at h <;> simp [plainOp] at h <;> rfl
theorem plain_semAt {o : Oper} (h : plainOp o.op = true) (ro : Option Nat) (ρ : Operand → Value) : o.semAt ro ρ = execOp ρ o :=
  Oper.semAt_eq ro ρ o (fun c hc => by rw [hc] at h; simp [plainOp] at h)
theorem plain_in {F : Fence} {n : Nat} {P : Program} {ops : Array Oper} {K : Act → World → Prop} {Q : Exit → Act → World → Prop} (hp : ∀ (i : Nat) (o : Oper), ops[i]? = some o → plainOp o.op = true) (hK : ∀ a w, K a w → Q .normal a w) :
    ∀ (L : List Nat) (a : Act) (w : World), wpOps P ops (fun e a w => e = .normal ∧ K a w) L a w → wpOpsIn F n P ops Q L a w
  | [], a, w, h => hK _ _ h.2
  | i :: L, a, w, h => by
    unfold wpOps at h
    unfold wpOpsIn
    cases ho : ops[i]? with
    | none => simp only [ho] at h ⊢; exact plain_in hp hK L a w h
    | some o =>
      have hpo := hp i o ho
      simp only [ho] at h ⊢
      by_cases hw : Region.wanted o (yielded ops a.tmps) = true
      · rw [if_pos hw] at h ⊢
        rcases h with h | ⟨_, _, _, h⟩
        · refine ⟨(fun f hf => by rw [plain_about hpo] at hf; cases hf), ?_⟩
          rw [plain_semAt hpo]
          unfold Oper.wp at h
          rcases plain_run (P := P) hpo a.eval w with ⟨v, w', e⟩ | ⟨w', e⟩ | ⟨x, w', e⟩
          · rw [e] at h ⊢; exact plain_in hp hK L _ _ h
          · rw [e] at h ⊢; exact plain_in hp hK L _ _ h
          · rw [e] at h ⊢
            cases x <;> first | exact absurd h.1 (by simp) | exact absurd h (by simp [Oper.upon])
        · exact absurd h.1 (by simp)
      · rw [if_neg hw] at h ⊢
        exact ⟨(fun f hf => by rw [plain_about hpo] at hf; cases hf), plain_in hp hK L _ _ h⟩
/-- The law. -/
theorem region_tail_in {F : Fence} {m : Nat} {P : Program} {id : Nat} {Q : Exit → Act → World → Prop} {a : Act} {w : World} {l : List Oper} (n : Nat) (hm : P.follows .mixedOrders = true) (hB : Region.lexTailB .any l.toArray n = true) (hp : l.all (fun o => plainOp o.op) = true)
    (h : ∀ w3 : World, w3 = w.drew → wpStill P l.toArray w3 (fun a' => wpList P l.toArray (fun e a w => e = .normal ∧ Q .normal a w) (l.drop n) a' w3) (l.take n) a) : (Code.region id l.toArray true).wpIn F m P Q a w := by
  have h := h _ rfl
  simp only [Region.lexTailB, Bool.and_eq_true, decide_eq_true_eq] at hB
  obtain ⟨⟨⟨⟨hsel, hn⟩, hs⟩, hc⟩, hlex⟩ := hB
  have hn' : n < l.length := by simpa using hn
  have htl : (l.take n).length = n := by simp; omega
  have hdl : (l.drop n).length = l.toArray.size - n := by simp
  have inv0 : HeadInv .any l.toArray n (Array.replicate l.toArray.size false) :=
    ⟨by simp, fun j oj _ hl => (by rw [getD_replicate_false] at hl; cases hl), fun t _ ht => getD_in (by simpa using ht) (getD_replicate_false _ _)⟩
  have H := wpAnyL_lex (md := .any) (g := l.toArray.size - n) hsel hs hc hn (l.take n) 0 _ a (fun j hj => by
    have hj' : j < n := by rw [htl] at hj; exact hj
    simp [hj']) (by simpa using htl) inv0 (by rw [htl]; exact hlex) h
  have H2 := wpAny_of_head (Q' := fun e a w => e = .normal ∧ Q .normal a w) (g := l.toArray.size - n) (fun listed a' hL => by
    have := wpAny_of_seq (md := .any) (Q' := fun e a w => e = .normal ∧ Q .normal a w) (l.drop n) n listed a' w.drew (fun j => by simp [List.getElem?_drop]) (by rw [hdl]; exact hL.1) hL.2
    rwa [hdl] at this) _ _ _ H
  rw [htl, show n + (l.toArray.size - n) = l.toArray.size by omega] at H2
  refine wpIn_region_draw fun t => ?_
  simp only [Region.schedule, hm, Bool.true_or, if_true]
  refine plain_in (K := fun a w => Q .normal a w) (fun i o ho => ?_) (fun _ _ h => h) _ _ _ (wpAny_sound l.toArray.size t _ a _ H2)
  have : o ∈ l := by simpa using Array.mem_of_getElem? ho
  exact List.all_eq_true.1 hp o this
end Go.Proofs.Ytpibhiacmceekaa.X

namespace Go.Proofs.Ytpibhiacmceekaa.X
open Go.RowKit Go.Proofs.YtpibhiacmceekaaW.PrintWords Go.Proofs.YtpibhiacmceekaaW.PrintLast Go.Proofs.YtpibhiacmceekaaW.PrintMore Go.Shelf
attribute [local go_sem] Oper.semAt_some
set_option linter.unusedVariables false
set_option linter.unusedSimpArgs false

/-- Bit t of byte x, as the code tells it. -/
def bitv (x : Int) (t : Nat) : Int := wrap64 (bits .and .u8 (x / 2 ^ t) 1)
/-- The first m bits. -/
def allB (xs : List Int) (m : Nat) : List Int := (List.range m).map fun j => bitv (xs.getD (j / 8) 0) (j % 8)
theorem allB_succ (xs : List Int) (m : Nat) : allB xs (m + 1) = allB xs m ++ [bitv (xs.getD (m / 8) 0) (m % 8)] := by simp [allB, List.range_succ]
theorem allB_length (xs : List Int) (m : Nat) : (allB xs m).length = m := by simp [allB]

set_option maxRecDepth 100000 in
set_option maxHeartbeats 2000000 in
theorem bits1_in (F : Fence) (n : Nat) (hF : F.fn 78) (hro : F.round = none) (hn : 1 ≤ n) (l Bs n₀ c : Nat) (A : Option Addr) (xs : List Int) (w0 : World) (hC : Kd.C (Kd.int .u8) w0 A xs.length xs) (hlen : xs.length ≤ 1000000000000) (h0w : w0.heap.size = n₀) (J Jx : List Int → World → Prop)
    (hY : ∀ pre x W, J pre W → pre.length < 8 * xs.length → YieldAt F (n - 1) Try.prog l #[.int .i64 x] W fun e W' =>
      (e = .returned (.bool true) ∧ J (pre ++ [x]) W' ∧ Below n₀ W W') ∨ (e = .returned (.bool false) ∧ Jx (pre ++ [x]) W'))
    (W : World) (hW : Below n₀ w0 W) (hBs : W.cell? ⟨Bs, 0, none⟩ = some (.slice A xs.length c)) (h0 : J [] W) :
    CallsIn F n Try.prog 78 #[.func (.yield l) #[] #[], .pointer (some ⟨Bs, 0, none⟩)] W fun e W' => (∃ v, e = .returned v) ∧
      ((∃ ys, ys = allB xs (8 * xs.length) ∧ J ys W') ∨ (∃ pre, (∃ m, m ≤ 8 * xs.length ∧ pre = allB xs m) ∧ Jx pre W')) := by
  refine callsIn_of_wp Try.func78 rfl hF ?_ hro
  simp only [Try.ntmps78, List.size_toArray, List.length_cons, List.length_nil, Nat.reduceAdd, Nat.reduceSub, Array.replicate_succ, Array.replicate_zero, List.push_toArray, List.append_toArray, List.nil_append, List.cons_append]
  have HC := Aside0.mk hC
  have HY := Aside0.mk hY
  have h0w := Aside0.mk h0w
  clear hC hY
  gi_wp2
  gi_loopw [8] (fun v8 wr => ∃ i : Nat, v8 = .int .i64 i ∧ i ≤ xs.length ∧ Aside0 (J (allB xs (8 * i)) wr) ∧ Aside0 (Below n₀ w0 wr)) (fun v8 _ => xs.length - (intOf v8).toNat)
  case atStart => exact ⟨0, rfl, Nat.zero_le _, ⟨h0⟩, ⟨hW⟩⟩
  case round =>
    obtain ⟨i, rfl, hi, HJ, HB⟩ := hrel
    by_cases hlt : i < xs.length
    · obtain ⟨ad, rfl, hcell⟩ := c_at (Kd.C_below HC.out (by have := HB.out; rw [← h0w.out] at this; exact this)) (i : Int) (by omega) (by omega)
      have e : rd xs (i : Int) = xs.getD i 0 := rfl
      rw [e, show ((i : Int)).toNat = i from rfl] at hcell
      obtain ⟨x, hx⟩ : ∃ x, x = xs.getD i 0 := ⟨_, rfl⟩
      rw [← hx] at hcell
      have Hx := Aside0.mk hx
      clear e hx
      gi_wp2
      obtain ⟨wo, rfl⟩ : ∃ wo : World, wo = wr := ⟨_, rfl⟩
      gi_loopw [12] (fun v12 wr => ∃ t : Nat, v12 = .int .i64 t ∧ t ≤ 8 ∧ Aside0 (J (allB xs (8 * i + t)) wr) ∧ Aside0 (Below n₀ w0 wr)) (fun v12 _ => 8 - (intOf v12).toNat)
      case atStart => exact ⟨0, rfl, by omega, by simpa using HJ, HB⟩
      case round =>
        clear HJ HB hcell
        obtain ⟨t, rfl, ht, HJ, HB⟩ := hrel
        by_cases hlt8 : t < 8
        · obtain ⟨fn, tmps, assign, body, hy, hR⟩ := HY.out _ (bitv x t) wr HJ.out (by rw [allB_length]; omega)
          have hJ1 := Aside0.mk (show allB xs (8 * i + t) ++ [bitv x t] = allB xs (8 * i + (t + 1)) by rw [← Nat.add_assoc, allB_succ, Hx.out, show (8 * i + t) / 8 = i by omega, show (8 * i + t) % 8 = t by omega])
          have hml := Aside0.mk (show 8 * i + (t + 1) ≤ 8 * xs.length by omega)
          simp only [bitv] at hy
          clear HJ
          gi_wp2
          refine hR.mono ?_
          rintro e W3 (⟨rfl, hJ3, hk3⟩ | ⟨rfl, hJx3⟩)
          · rw [hJ1.out] at hJ3
            have HJ3 := Aside0.mk hJ3
            have HB3 := Aside0.mk (HB.out.trans hk3)
            clear hJ3 hk3
            gi_wp2
            go_roundw
            case rel => exact ⟨t + 1, by go_num, by omega, HJ3, HB3⟩
            case measure => simp [intOf]; omega
          · rw [hJ1.out] at hJx3
            have HJ3 := Aside0.mk hJx3
            clear hJx3
            gi_wp2
            refine bodyPost_ret (results_none rfl _ _ _) rfl ?_
            exact ⟨⟨_, rfl⟩, .inr ⟨_, ⟨8 * i + (t + 1), hml.out, rfl⟩, HJ3.out⟩⟩
        · obtain rfl : t = 8 := by omega
          gi_wp2
          go_roundw
          case rel => exact ⟨i + 1, by go_num, by omega, by rw [show 8 * (i + 1) = 8 * i + 8 by omega]; exact HJ, HB⟩
          case measure => simp [intOf]; omega
    · obtain rfl : i = xs.length := by omega
      gi_wp2
      go_end0
      exact ⟨⟨_, rfl⟩, .inl ⟨_, rfl, HJ.out⟩⟩
set_option maxHeartbeats 1000000 in
/-- The closure: the slice is boxed. -/
theorem bits_in (A : Option Addr) (c : Nat) (xs : List Int) (w : World) :
    Calls Try.prog 77 #[.slice A xs.length c] w fun e w' => e = .returned (.func (.func 78) #[] #[.pointer (some ⟨w.heap.size, 0, none⟩)]) ∧ w' = w.alloc (.cells #[.slice A xs.length c] 37) := by
  go_enter Try.func77, Try.ntmps77
  go_wp2
  go_ret
  exact ⟨rfl, rfl⟩
theorem bits_stops (F : Fence) (n : Nat) (hF : F.fn 78) (hro : F.round = none) (hn : 1 ≤ n) (Bs n₀ c : Nat) (A : Option Addr) (xs : List Int) (w0 w : World) (hC : Kd.C (Kd.int .u8) w0 A xs.length xs) (hlen : xs.length ≤ 1000000000000) (h0w : w0.heap.size = n₀) (hb : Below n₀ w0 w) (hBs : Bs < w.heap.size)
    (hc : w.cell? ⟨Bs, 0, none⟩ = some (.slice A xs.length c)) :
    SeqStopsK F n Try.prog 78 #[.pointer (some ⟨Bs, 0, none⟩)] (fun x : Int => #[Value.int .i64 x]) (Below n₀) (fun ys => ys = allB xs (8 * xs.length)) (fun pre => ∃ m, m ≤ 8 * xs.length ∧ pre = allB xs m) (8 * xs.length) w := fun l J Jx W hW _ _ hY h0 =>
  bits1_in F n hF hro hn l Bs n₀ c A xs w0 hC hlen h0w J Jx hY W (hb.trans (hW.mono (by have := hb.size; omega))) ((hW.cell (p := ⟨Bs, 0, none⟩) hBs).trans hc) h0
end Go.Proofs.Ytpibhiacmceekaa.X

namespace Go.Proofs.Ytpibhiacmceekaa.X
open Go.RowKit Go.Proofs.YtpibhiacmceekaaW.PrintWords Go.Proofs.YtpibhiacmceekaaW.PrintLast Go.Proofs.YtpibhiacmceekaaW.PrintMore
attribute [local go_sem] max2_int min2_int max_two min_two max_three min_three max_four min_four   -- for this text's walks alone
set_option linter.unusedVariables false
set_option linter.unusedSimpArgs false

/-! ### bits_Unpack: function 75 (by hand): a range over the bits; the results lie in cells -/

theorem size_drewN (w : World) (n : Nat) : (w.drewN n).heap.size = w.heap.size := rfl
theorem heap_alloc_at (w : World) (o : Obj) {g : Nat} (h : g = w.heap.size) : (w.alloc o).heap[g]? = some o := by subst h; exact blk_new w o
theorem named_in {F : Fence} {n : Nat} {P : Program} {Q : Exit → Act → World → Prop} {a : Act} {w : World} {c : Code} (h : ∀ W, W = w → c.wpIn F n P Q a W) : c.wpIn F n P Q a w := h _ rfl
def oneVar : TypeDesc → Bool
 | .struct _ | .array _ _ => false
 | _ => true
theorem run_loadVar_one {P : Program} {t : TypeId} {e : TypeDesc} {b : Addr} {x : Value} {w : World} (h1 : P.underlying t = some e) (h2 : oneVar e = true) (h3 : w.cell? b = some x) : (loadVar t b).run P w = .ok x w := by
 have hagg : (isAgg t).run P w = .ok false w := by
  unfold isAgg
  rw [Sem.run_bind, run_underlying h1 w]
  cases e <;> simp_all [oneVar]
 simp [loadVar, Sem.run_bind, hagg, go_sem, h3]
theorem wpList_named {P : Program} {ops : Array Oper} {Q : Exit → Act → World → Prop} {l : List Oper} {a : Act} {w : World} (h : ∀ Q', Aside0 (∀ a w, Q .normal a w → Q' .normal a w) → wpList P ops Q' l a w) : wpList P ops Q l a w := h Q ⟨fun _ _ h => h⟩
/-- Two results that lie in variables of one cell each. -/
theorem results_v2 {P : Program} {fn : Func} {p p' : Tmp} {ty ty' : TypeId} (h : fn.results = #[.cell p ty, .cell p' ty']) {tmps : Array Value} {w : World} {a a' : Addr} {v v' : Value} (d d' : TypeDesc) (hu : P.underlying ty = some d) (hd : oneVar d = true) (hu' : P.underlying ty' = some d') (hd' : oneVar d' = true)
  (hp : tmps.getD p undef = .pointer (some a)) (hp' : tmps.getD p' undef = .pointer (some a')) (hv : w.cell? a = some v) (hv' : w.cell? a' = some v') : (results fn tmps).run P w = .ok (.tuple #[v, v']) w := by
 unfold results
 rw [h]
 simp only [List.mapM_toArray, Sem.run_bind, Sem.run_map, List.mapM_cons, List.mapM_nil, hp, hp', asAddr, Sem.run_pure, Result.andThen_ok, run_loadVar_one hu hd hv, run_loadVar_one hu' hd' hv']
 simp
/-- A row of cells abides what turns no cells. -/
theorem blk_own {W W' : World} {row : Option Nat} {B g t : Nat} {cs : Array Value} (h : W.heap[g]? = some (.cells cs t (0, 0))) (hg : W.grownBy W' row) (hr : ∀ r, row = some r → B ≤ r ∧ ∃ o : Obj, W.heap[r]? = some o ∧ o.isCells = false) : W'.heap[g]? = some (.cells cs t (0, 0)) := by
 refine blk_grown h hg fun e => ?_
 obtain ⟨_, o, ho, hc⟩ := hr g e.symm
 rw [h] at ho
 cases ho
 cases hc
theorem row_own {W W' : World} {row : Option Nat} {B : Nat} {base g e n cap : Nat} {xs : List Value} (h : W.ownsRow base e 1 (.slice (some ⟨g, 0, none⟩) n cap) n xs) (hg : W.grownBy W' row) (hr : ∀ r, row = some r → B ≤ r ∧ ∃ o : Obj, W.heap[r]? = some o ∧ o.isCells = false) : W'.ownsRow base e 1 (.slice (some ⟨g, 0, none⟩) n cap) n xs := by
 refine h.kept hg (.inr fun eq => ?_)
 obtain ⟨_, o, ho, hc⟩ := hr g eq.symm
 obtain ⟨cs, hcs⟩ := own_typed h g rfl
 rw [hcs] at ho
 cases ho
 cases hc

/-- One bit: into its number, or, behind the last number, it must be none. -/
def ust (a1 : Int) (m : Nat) (s : List Int × Nat × Nat) (x : Int) : Option (List Int × Nat × Nat) :=
 if 0 < a1 ∧ s.2.1 < m then some (s.1.set s.2.1 (bits .or .u64 (rd s.1 (s.2.1 : Int)) (IntKind.u64.wrap (IntKind.u64.wrap x * 2 ^ s.2.2))), if (s.2.2 : Int) + 1 = a1 then (s.2.1 + 1, 0) else (s.2.1, s.2.2 + 1))
 else if x = 0 then some s else none
def urun (a1 : Int) (m : Nat) (ys : List Int) : Option (List Int × Nat × Nat) := ys.foldl (fun o x => o.bind fun s => ust a1 m s x) (some (List.replicate m 0, 0, 0))
theorem urun_snoc (a1 : Int) (m : Nat) (ys : List Int) (x : Int) : urun a1 m (ys ++ [x]) = (urun a1 m ys).bind fun s => ust a1 m s x := by simp [urun]
theorem urun_none (a1 : Int) (m : Nat) : ∀ (zs : List Int), zs.foldl (fun o x => o.bind fun s => ust a1 m s x) none = none
 | [] => rfl
 | z :: zs => urun_none a1 m zs
theorem urun_app (a1 : Int) (m : Nat) (ys zs : List Int) (h : urun a1 m ys = none) : urun a1 m (ys ++ zs) = none := by
 unfold urun at h ⊢
 rw [List.foldl_append, h, urun_none]
theorem allB_split {xs : List Int} {a b : Nat} (h : a ≤ b) : allB xs b = allB xs a ++ ((List.range (b - a)).map fun j => bitv (xs.getD ((a + j) / 8) 0) ((a + j) % 8)) := by
 obtain ⟨c, rfl⟩ : ∃ c, b = a + c := ⟨b - a, by omega⟩
 simp [allB, List.range_add, Function.comp_def]
def bits_Unpack.f (k : Nat) (l0 : List Int) (a1 a2 : Int) : Option (List Int × Int) :=
 (bits_Size.f k a1 a2).bind fun s => if s.2 = 0 then (if (l0.length : Int) < s.1 then some ([], 6) else if s.1 < (l0.length : Int) then some ([], 7) else
  if 0 ≤ a1 ∧ a1 ≤ 64 ∧ 0 ≤ a2 ∧ a2 ≤ 1048576 ∧ l0.length ≤ 1048576 then some (match urun a1 a2.toNat (allB l0 (8 * l0.length)) with | some r => (r.1, 0) | none => ([], 8)) else none) else some ([], s.2)
theorem bits_Unpack.mono : ∀ l0 a1 a2 k, LeO (bits_Unpack.f k l0 a1 a2) (bits_Unpack.f (k + 1) l0 a1 a2) := by
 intro l0 a1 a2 k
 unfold bits_Unpack.f
 exact LeO.bind (bits_Size.mono _ _ _) (fun _ => LeO.refl _)

/-- What lies in the boxes. -/
def UnH (w : World) (a1 : Int) (m : Nat) (out : List Int) (k t : Nat) (W : World) : Prop :=
 W.heap[w.heap.size]? = some (.cells #[.int .i64 a1] 3 (0, 0)) ∧ W.heap[w.heap.size + 1]? = some (.cells #[.int .i64 m] 3 (0, 0)) ∧
  W.heap[w.heap.size + 2]? = some (.cells #[.slice none 0 0] 65 (0, 0)) ∧ W.heap[w.heap.size + 3]? = some (.cells #[.int .i64 0] 24 (0, 0)) ∧
  W.ownsRow w.heap.size 61 1 (.slice (some ⟨w.heap.size + 4, 0, none⟩) m m) m (nums .u64 out) ∧ W.heap[w.heap.size + 5]? = some (.cells #[.slice (some ⟨w.heap.size + 4, 0, none⟩) m m] 65 (0, 0)) ∧
  W.heap[w.heap.size + 6]? = some (.cells #[.int .i64 k] 3 (0, 0)) ∧ W.heap[w.heap.size + 7]? = some (.cells #[.int .i64 t] 3 (0, 0)) ∧ Below w.heap.size w W
theorem un_H {w : World} {a1 : Int} {m : Nat} {out : List Int} {k t : Nat} {W : World} (g0 : W.heap[w.heap.size]? = some (.cells #[.int .i64 a1] 3 (0, 0))) (g1 : W.heap[w.heap.size + 1]? = some (.cells #[.int .i64 m] 3 (0, 0)))
  (g2 : W.heap[w.heap.size + 2]? = some (.cells #[.slice none 0 0] 65 (0, 0))) (g3 : W.heap[w.heap.size + 3]? = some (.cells #[.int .i64 0] 24 (0, 0)))
  (g4 : W.ownsRow w.heap.size 61 1 (.slice (some ⟨w.heap.size + 4, 0, none⟩) m m) m (nums .u64 out)) (g5 : W.heap[w.heap.size + 5]? = some (.cells #[.slice (some ⟨w.heap.size + 4, 0, none⟩) m m] 65 (0, 0)))
  (g6 : W.heap[w.heap.size + 6]? = some (.cells #[.int .i64 k] 3 (0, 0))) (g7 : W.heap[w.heap.size + 7]? = some (.cells #[.int .i64 t] 3 (0, 0))) (hb : Below w.heap.size w W) : UnH w a1 m out k t W := ⟨g0, g1, g2, g3, g4, g5, g6, g7, hb⟩
theorem un_set7 {w : World} {a1 x : Int} {m : Nat} {out : List Int} {k t : Nat} {W : World} (t' : Nat) (h : UnH w a1 m out k t W) (hx : x = (t' : Int)) : UnH w a1 m out k t' (W.setCell ⟨w.heap.size + 1 + 1 + 1 + 1 + 1 + 1 + 1, 0, none⟩ (.int .i64 x)) := by
 subst hx
 obtain ⟨g0, g1, g2, g3, g4, g5, g6, g7, hb⟩ := h
 have d : ∀ {j : Nat}, j < w.heap.size + 7 → j ≠ (⟨w.heap.size + 1 + 1 + 1 + 1 + 1 + 1 + 1, 0, none⟩ : Addr).block := fun h e => by simp only [] at e; omega
 refine ⟨blk_far g0 (d (by omega)) _, blk_far g1 (d (by omega)) _, blk_far g2 (d (by omega)) _, blk_far g3 (d (by omega)) _, own_setCell g4 (fun e => ?_) _, blk_far g5 (d (by omega)) _, blk_far g6 (d (by omega)) _, ?_, hb.setCell (by simp only []; omega) _⟩
 ·injection e with e
  exact d (j := w.heap.size + 4) (by omega) e.symm
 ·exact blk_set g7 0 _
theorem un_set6 {w : World} {a1 x : Int} {m : Nat} {out : List Int} {k t : Nat} {W : World} (k' : Nat) (h : UnH w a1 m out k t W) (hx : x = (k' : Int)) : UnH w a1 m out k' t (W.setCell ⟨w.heap.size + 1 + 1 + 1 + 1 + 1 + 1, 0, none⟩ (.int .i64 x)) := by
 subst hx
 obtain ⟨g0, g1, g2, g3, g4, g5, g6, g7, hb⟩ := h
 have d : ∀ {j : Nat}, j ≠ w.heap.size + 6 → j ≠ (⟨w.heap.size + 1 + 1 + 1 + 1 + 1 + 1, 0, none⟩ : Addr).block := fun h e => by simp only [] at e; omega
 refine ⟨blk_far g0 (d (by omega)) _, blk_far g1 (d (by omega)) _, blk_far g2 (d (by omega)) _, blk_far g3 (d (by omega)) _, own_setCell g4 (fun e => ?_) _, blk_far g5 (d (by omega)) _, ?_, blk_far g7 (d (by omega)) _, hb.setCell (by simp only []; omega) _⟩
 ·injection e with e
  exact d (j := w.heap.size + 4) (by omega) e.symm
 ·exact blk_set g6 0 _
/-- What lies in the boxes between two rounds. -/
def UnI (w : World) (a1 : Int) (m : Nat) (pre : List Int) (W : World) : Prop :=
 ∃ (out : List Int) (k t : Nat), urun a1 m pre = some (out, k, t) ∧ out.length = m ∧ k ≤ m ∧ (0 < a1 → (t : Int) < a1) ∧ t ≤ 64 ∧
  UnH w a1 m out k t W
def UnX (w : World) (a1 : Int) (m : Nat) (c : Code) (pre : List Int) (W : World) : Prop :=
 c = .ret ∧ urun a1 m pre = none ∧ W.heap[w.heap.size + 2]? = some (.cells #[.slice none 0 0] 65 (0, 0)) ∧ W.heap[w.heap.size + 3]? = some (.cells #[.int .i64 8] 24 (0, 0)) ∧ Below w.heap.size w W
theorem UnI_own (w : World) (a1 : Int) (m B : Nat) (hB : w.heap.size ≤ B) : OwnFrom B (UnI w a1 m) := by
 rintro pre W W' row ⟨out, k, t, h1, h2, h3, h4, h5, g0, g1, g2, g3, g4, g5, g6, g7, hb⟩ hg hr
 exact ⟨out, k, t, h1, h2, h3, h4, h5, blk_own g0 hg hr, blk_own g1 hg hr, blk_own g2 hg hr, blk_own g3 hg hr, row_own g4 hg hr, blk_own g5 hg hr, blk_own g6 hg hr, blk_own g7 hg hr, hb.grown hg hb.size (fun r e => Nat.le_trans hB (hr r e).1)⟩
theorem UnX_own (w : World) (a1 : Int) (m B : Nat) (hB : w.heap.size ≤ B) (c : Code) : OwnFrom B (UnX w a1 m c) := by
 rintro pre W W' row ⟨h1, h2, g2, g3, hb⟩ hg hr
 exact ⟨h1, h2, blk_own g2 hg hr, blk_own g3 hg hr, hb.grown hg hb.size (fun r e => Nat.le_trans hB (hr r e).1)⟩

theorem un_left {w W : World} {a1 : Int} {m B : Nat} {ys : List Int} (g2 : W.heap[w.heap.size + 2]? = some (.cells #[.slice none 0 0] 65 (0, 0))) (g3 : W.heap[w.heap.size + 3]? = some (.cells #[.int .i64 0] 24 (0, 0))) (hb : Below w.heap.size w W) (hn : urun a1 m ys = none) :
  KeepsFrom B W ((W.setCell ⟨w.heap.size + 1 + 1, 0, none⟩ (.slice none 0 0)).setCell ⟨w.heap.size + 1 + 1 + 1, 0, none⟩ (.int .i64 8)) ∧ UnX w a1 m .ret ys ((W.setCell ⟨w.heap.size + 1 + 1, 0, none⟩ (.slice none 0 0)).setCell ⟨w.heap.size + 1 + 1 + 1, 0, none⟩ (.int .i64 8)) := by
 refine ⟨((KeepsOthers.setCell _ _ _).trans (KeepsOthers.setCell _ _ _)).from _, rfl, hn, ?_, ?_, (hb.setCell (by simp only []; omega) _).setCell (by simp only []; omega) _⟩
 ·exact blk_far (blk_set g2 0 _) (by simp only []; omega) _
 ·exact blk_set (blk_far g3 (by simp only []; omega) _) 0 _

theorem un_end {w W : World} {m D : Nat} {out : List Int} (h2 : out.length = m) (hD : w.heap.size ≤ D) (g2 : W.heap[w.heap.size + 2]? = some (.cells #[.slice none 0 0] 65 (0, 0))) (g3 : W.heap[w.heap.size + 3]? = some (.cells #[.int .i64 0] 24 (0, 0)))
  (g4 : W.ownsRow w.heap.size 61 1 (.slice (some ⟨w.heap.size + 4, 0, none⟩) m m) m (nums .u64 out)) (hb : Below w.heap.size w W) (hK : W.heap[D]? = some (.deferred (some []))) (W5 : World)
  (h5 : W5 = (W.setCell ⟨w.heap.size + 1 + 1, 0, none⟩ (.slice (some ⟨w.heap.size + 4, 0, none⟩) m m)).setCell ⟨w.heap.size + 1 + 1 + 1, 0, none⟩ (.int .i64 0)) :
  W5.heap[D]? = some (.deferred (some [])) ∧ (W5.putObj D (.deferred none)).cell? ⟨w.heap.size + 1 + 1, 0, none⟩ = some (.slice (some ⟨w.heap.size + 4, 0, none⟩) m m) ∧ (W5.putObj D (.deferred none)).cell? ⟨w.heap.size + 1 + 1 + 1, 0, none⟩ = some (.int .i64 0) ∧
   Kd.R (Kd.int .u64) 61 (W5.putObj D (.deferred none)) w.heap.size (fun _ => True) (.slice (some ⟨w.heap.size + 4, 0, none⟩) m m) out ∧ Below w.heap.size w (W5.putObj D (.deferred none)) := by
 have hK' : W5.heap[D]? = some (.deferred (some [])) := by rw [h5]; exact ((KeepsOthers.setCell _ _ _).trans (KeepsOthers.setCell _ _ _)).same D _ hK rfl
 have a2 : W5.heap[w.heap.size + 2]? = some (.cells #[.slice (some ⟨w.heap.size + 4, 0, none⟩) m m] 65 (0, 0)) := by rw [h5]; exact blk_far (blk_set g2 0 _) (by simp only []; omega) _
 have a3 : W5.heap[w.heap.size + 3]? = some (.cells #[.int .i64 0] 24 (0, 0)) := by rw [h5]; exact blk_set (blk_far g3 (by simp only []; omega) _) 0 _
 have a4 : W5.ownsRow w.heap.size 61 1 (.slice (some ⟨w.heap.size + 4, 0, none⟩) m m) m (nums .u64 out) := by
  rw [h5]
  refine own_setCell (own_setCell g4 (fun e => ?_) _) (fun e => ?_) _ <;> (injection e with e; simp only [] at e; omega)
 have a5 : Below w.heap.size w W5 := by rw [h5]; exact (hb.setCell (by simp only []; omega) _).setCell (by simp only []; omega) _
 clear h5 g2 g3 g4 hb hK
 refine ⟨hK', cell_kept (blk_cell a2 0) (grownBy_putObj' _ D (.deferred none)) (fun r e => by cases e; exact ⟨_, hK', rfl⟩), cell_kept (blk_cell a3 0) (grownBy_putObj' _ D (.deferred none)) (fun r e => by cases e; exact ⟨_, hK', rfl⟩), ?_, a5.trans (belowK_b (w := w) (Nat.le_refl _) _ D _ _ hD hK' rfl rfl)⟩
 subst h2
 exact Kd.R_of_own (enc := Value.int .u64) (h1 := fun _ => rfl) (ownsRow_putObj a4 _ hK' rfl) (fun _ _ => trivial)
theorem un_halt {w W : World} {D : Nat} (hD : w.heap.size ≤ D) (g2 : W.heap[w.heap.size + 2]? = some (.cells #[.slice none 0 0] 65 (0, 0))) (g3 : W.heap[w.heap.size + 3]? = some (.cells #[.int .i64 8] 24 (0, 0)))
  (hb : Below w.heap.size w W) (hK : W.heap[D]? = some (.deferred (some []))) :
  (W.putObj D (.deferred none)).cell? ⟨w.heap.size + 1 + 1, 0, none⟩ = some (.slice none 0 0) ∧ (W.putObj D (.deferred none)).cell? ⟨w.heap.size + 1 + 1 + 1, 0, none⟩ = some (.int .i64 8) ∧ Below w.heap.size w (W.putObj D (.deferred none)) :=
 ⟨cell_kept (blk_cell g2 0) (grownBy_putObj' _ D (.deferred none)) (fun r e => by cases e; exact ⟨_, hK, rfl⟩), cell_kept (blk_cell g3 0) (grownBy_putObj' _ D (.deferred none)) (fun r e => by cases e; exact ⟨_, hK, rfl⟩), hb.trans (belowK_b (w := w) (Nat.le_refl _) _ D _ _ hD hK rfl rfl)⟩

section
attribute [local go_sem] Oper.semAt_some
set_option maxRecDepth 100000 in
set_option maxHeartbeats 4000000 in
theorem un_main (k : Nat) (A0 : Option Addr) (c0 : Nat) (l0 : List Int) (a1 a2 s1 : Int) (w : World) (hr0 : Kd.C (Kd.int .u8) w A0 l0.length l0) (hc0 : l0.length ≤ c0) (hs : bits_Size.f k a1 a2 = some (s1, 0)) (h1 : ¬ (l0.length : Int) < s1) (h2 : ¬ s1 < (l0.length : Int)) (hw0 : 0 ≤ a1) (hw1 : a1 ≤ 64) (hn0 : 0 ≤ a2) (hn1 : a2 ≤ 1048576) (hl : l0.length ≤ 1048576) (r1 : List Int) (r2 : Int)
  (h : (match urun a1 a2.toNat (allB l0 (8 * l0.length)) with | some r => (r.1, 0) | none => ([], 8)) = (r1, r2)) (n : Nat) (hn : 4 ≤ n) :
  CallsIn Fence.wide n Try.prog 75 #[.slice A0 l0.length c0, .int .i64 a1, .int .i64 a2] w fun e w' => ∃ v0_ : Value, e = .returned (.tuple #[v0_, .int .i64 r2]) ∧ Kd.R (Kd.int .u64) 61 w' w.heap.size (fun _ => True) v0_ r1 ∧ Below w.heap.size w w' := by
 have hro : Fence.wide.round = none := rfl
 have HR0 := Aside0.mk hr0
 have Hs := Aside0.mk hs
 have h1n : 1 ≤ n := by omega
 have hn2 := Aside0.mk (show 1 ≤ n - 1 by omega)
 clear hr0 hs
 have h1b := decide_eq_false h1
 have h2b := decide_eq_false h2
 clear h1 h2
 obtain ⟨m, rfl⟩ := Int.eq_ofNat_of_zero_le hn0
 rw [show ((m : Int)).toNat = m from rfl] at h
 have H := Aside0.mk h
 clear h
 have hmk := print_make_int (P := Try.prog) 65 61 (.int .u64 0) 8 (by kernel_rfl) (by kernel_rfl) rfl (by decide) (m : Int) hn0 (by omega)
 rw [show ((m : Int)).toNat = m from rfl] at hmk
 refine callsIn_of_wp_marks Try.func75 rfl trivial ?_ hro
 simp only [Try.ntmps75, List.size_toArray, List.length_cons, List.length_nil, Nat.reduceAdd, Nat.reduceSub, Array.replicate_succ, Array.replicate_zero, List.push_toArray, List.append_toArray, List.nil_append, List.cons_append]
 gi_wp2_with (refine ⟨trivial, ?_⟩; first | (gi_at_call 55; refine (callsIn_wide.2 (bits_Size.calls k a1 m s1 0 _ Hs.out)).mono ?_; rintro e w' ⟨rfl, ⟨nd, rfl⟩⟩) | (gi_at_call 77; refine (callsIn_wide.2 (bits_in A0 c0 l0 _)).mono ?_; rintro e w' ⟨rfl, rfl⟩))
 clear hmk
 refine named_in fun W0 hW0 => ?_
 have f0 : W0.heap[w.heap.size]? = some (.cells #[.int .i64 a1] 3 (0,0)) := by rw [hW0]; repeat (first | (refine heap_alloc_at _ _ ?_; ((try simp only [World.size_alloc, World.size_setCell, size_drewN]) <;> omega)) | (refine blk_alloc ?_ _) | (refine blk_drewN ?_ _))
 have f1 : W0.heap[w.heap.size + 1]? = some (.cells #[.int .i64 m] 3 (0,0)) := by rw [hW0]; repeat (first | (refine heap_alloc_at _ _ ?_; ((try simp only [World.size_alloc, World.size_setCell, size_drewN]) <;> omega)) | (refine blk_alloc ?_ _) | (refine blk_drewN ?_ _))
 have f2 : W0.heap[w.heap.size + 2]? = some (.cells #[.slice none 0 0] 65 (0,0)) := by rw [hW0]; repeat (first | (refine heap_alloc_at _ _ ?_; ((try simp only [World.size_alloc, World.size_setCell, size_drewN]) <;> omega)) | (refine blk_alloc ?_ _) | (refine blk_drewN ?_ _))
 have f3 : W0.heap[w.heap.size + 3]? = some (.cells #[.int .i64 0] 24 (0,0)) := by rw [hW0]; repeat (first | (refine heap_alloc_at _ _ ?_; ((try simp only [World.size_alloc, World.size_setCell, size_drewN]) <;> omega)) | (refine blk_alloc ?_ _) | (refine blk_drewN ?_ _))
 have f4 : W0.heap[w.heap.size + 4]? = some (.cells (madeCells #[Value.int IntKind.u64 0] m) 61 (0,0)) := by rw [hW0]; repeat (first | (refine heap_alloc_at _ _ ?_; ((try simp only [World.size_alloc, World.size_setCell, size_drewN]) <;> omega)) | (refine blk_alloc ?_ _) | (refine blk_drewN ?_ _))
 have f5 : W0.heap[w.heap.size + 5]? = some (.cells #[.slice (some ⟨w.heap.size + 4, 0, none⟩) m m] 65 (0,0)) := by rw [hW0]; repeat (first | (refine heap_alloc_at _ _ ?_; ((try simp only [World.size_alloc, World.size_setCell, size_drewN]) <;> omega)) | (refine blk_alloc ?_ _) | (refine blk_drewN ?_ _))
 have f6 : W0.heap[w.heap.size + 6]? = some (.cells #[.int .i64 0] 3 (0,0)) := by rw [hW0]; repeat (first | (refine heap_alloc_at _ _ ?_; ((try simp only [World.size_alloc, World.size_setCell, size_drewN]) <;> omega)) | (refine blk_alloc ?_ _) | (refine blk_drewN ?_ _))
 have f7 : W0.heap[w.heap.size + 7]? = some (.cells #[.int .i64 0] 3 (0,0)) := by rw [hW0]; repeat (first | (refine heap_alloc_at _ _ ?_; ((try simp only [World.size_alloc, World.size_setCell, size_drewN]) <;> omega)) | (refine blk_alloc ?_ _) | (refine blk_drewN ?_ _))
 have f8 : W0.heap[w.heap.size + 8]? = some (.cells #[.slice A0 l0.length c0] 37 (0,0)) := by rw [hW0]; repeat (first | (refine heap_alloc_at _ _ ?_; ((try simp only [World.size_alloc, World.size_setCell, size_drewN]) <;> omega)) | (refine blk_alloc ?_ _) | (refine blk_drewN ?_ _))
 have hb : Below w.heap.size w W0 := by rw [hW0]; repeat (first | exact Below.refl _ _ | (refine below_alloc ?_ _) | (refine pw_below_drewN ?_ _))
 have hsz : W0.heap.size = w.heap.size + 9 := by rw [hW0]; simp only [World.size_alloc, size_drewN]
 have frow : W0.ownsRow w.heap.size 61 1 (.slice (some ⟨w.heap.size + 4, 0, none⟩) m m) m (nums .u64 (List.replicate m 0)) := by
  have ho := own_made w w.heap.size 61 .u64 m (Nat.le_refl _) (by omega)
  refine ⟨ho.1, .inr ⟨w.heap.size + 4, m, _, rfl, by omega, f4, Nat.le_refl _, by simp [maxLen]; omega, by simp [size_madeCells], ?_⟩⟩
  rw [Nat.mul_one, List.take_of_length_le (by simp [size_madeCells])]
  apply List.ext_getElem
  ·simp [nums, madeCells]
  ·intro i h1 h2
   simp [nums, madeCells, Nat.mod_one]
 have FI := Aside0.mk (show UnI w a1 m [] W0 from ⟨List.replicate m 0, 0, 0, rfl, by simp, Nat.zero_le _, fun h => h, by omega, f0, f1, f2, f3, frow, f5, f6, f7, hb⟩)
 have HB := Aside0.mk hb
 have F8 := Aside0.mk (show W0.cell? ⟨w.heap.size + 8, 0, none⟩ = some (.slice A0 l0.length c0) from blk_cell f8 0)
 clear hW0 f0 f1 f2 f3 f4 f5 f6 f7 f8 hb frow
 refine wpIn_rangeFunc_ownG hro h1n (gf := 78) (lb := #[.pointer (some ⟨w.heap.size + 8, 0, none⟩)]) rfl trivial (enters_of Try.func78 (by kernel_rfl) rfl)
  (bits_stops Fence.wide (n - 1) trivial hro hn2.out (w.heap.size + 8) w.heap.size c0 A0 l0 w W0 HR0.out (by omega) rfl HB.out (by omega) F8.out) belowK_t (belowK_b (by omega)) (Below.refl _ _) (fun _ => rfl)
  (UnI w a1 m) (UnX w a1 m) (UnI_own w a1 m _ (by omega)) (UnX_own w a1 m _ (by omega)) FI.out ?a1 ?assign ?body ?done ?stop
 case assign =>
  intro l x W K hK
  gi_wp2
  exact hK
 case body =>
  rintro l pre x W ⟨out, k, t, h1, h2, h3, h4, h5, g0, g1, g2, g3, g4, g5, g6, g7, hb⟩ hlen
  clear F8 FI HB H HR0 Hs
  have c0 := blk_cell g0 0
  have c1 := blk_cell g1 0
  have c6 := blk_cell g6 0
  have c7 := blk_cell g7 0
  have F6 := blk_frozen g6 0
  have F7 := blk_frozen g7 0
  have hsn := urun_snoc a1 m pre x
  rw [h1, Option.bind_some] at hsn
  simp only [ust] at hsn
  by_cases hp : 0 < a1
  ·have hpb := decide_eq_true hp
   by_cases hk : k < m
   ·rw [if_pos ⟨hp, hk⟩] at hsn
    have hkb := decide_eq_true (show (k : Int) < (m : Int) by omega)
    gi_wp2
    rename_i K1 hK1
    have cr := (own_at g4 (k : Int) (by omega) (by omega)).1
    have fr := (own_at g4 (k : Int) (by omega) (by omega)).2
    rw [show ((k : Int)).toNat = k from rfl] at cr fr
    have c5 := blk_cell g5 0
    obtain ⟨y, hy⟩ : ∃ y, y = rd out (k : Int) := ⟨_, rfl⟩
    rw [← hy] at cr hsn
    clear hy
    refine region_tail_in 10 (by kernel_rfl) (by kernel_rfl) (by kernel_rfl) (fun w3 hw3 => ?_)
    simp only [List.take_succ_cons, List.take_zero, List.drop_succ_cons, List.drop_zero]
    have d5 : w3.cell? ⟨w.heap.size + 1 + 1 + 1 + 1 + 1, 0, none⟩ = some (.slice (some ⟨w.heap.size + 4, 0, none⟩) m m) := by rw [hw3]; exact c5
    have d6 : w3.cell? ⟨w.heap.size + 1 + 1 + 1 + 1 + 1 + 1, 0, none⟩ = some (.int .i64 k) := by rw [hw3]; exact c6
    have d7 : w3.cell? ⟨w.heap.size + 1 + 1 + 1 + 1 + 1 + 1 + 1, 0, none⟩ = some (.int .i64 t) := by rw [hw3]; exact c7
    have dr : w3.cell? ⟨w.heap.size + 4, k, none⟩ = some (.int .u64 y) := by rw [hw3]; exact cr
    have dfr : w3.frozen? ⟨w.heap.size + 4, k, none⟩ = false := by rw [hw3]; exact fr
    have e1 : 0 ≤ (k : Int) := by omega
    have e2 : (k : Int) < m := by omega
    have e3 : ((k : Int)).toNat = k := rfl
    have e4 : ((t : Int)).toNat = t := rfl
    have e5 : 0 ≤ (t : Int) := by omega
    repeat still_step
    refine wpStill_nil ?_
    clear e1 e2 e3 e4 e5 d5 d6 d7 dr
    refine wpList_named fun Q' hQ' => ?_
    go_wp2
    refine hQ'.out _ _ ⟨trivial, ?_⟩
    clear hQ' Q'
    obtain ⟨z, hz⟩ : ∃ z, z = bits .or .u64 y (IntKind.u64.wrap (IntKind.u64.wrap x * 2 ^ t)) := ⟨_, rfl⟩
    rw [← hz] at hsn ⊢
    simp only [Exit.then]
    refine hK1 _ _ ?_
    refine named_in fun W4 hW4 => ?_
    clear dfr c0 c1 c5 c6 c7 F6 F7 fr cr
    have go := own_store (k := .u64) g4 (k : Int) z
    rw [show ((k : Int)).toNat = k from rfl] at go
    have q : ∀ {j : Nat} {t : Nat} {cs : Array Value}, W.heap[j]? = some (.cells cs t (0, 0)) → j ≠ w.heap.size + 4 → W4.heap[j]? = some (.cells cs t (0, 0)) := fun {j t cs} hj hne => by rw [hW4]; exact blk_drew (blk_far hj (by simpa using hne) _)
    have hb4 : Below w.heap.size w W4 := by rw [hW4]; exact below_drew1 (hb.setCell (p := ⟨w.heap.size + 4, k, none⟩) (by simp) _)
    have hb4' : Below w.heap.size W W4 := by rw [hW4]; exact below_drew1 ((Below.refl _ W).setCell (p := ⟨w.heap.size + 4, k, none⟩) (by simp) _)
    have hk4 : KeepsOthers W W4 := by rw [hW4]; exact (KeepsOthers.setCell _ _ _).trans (KeepsOthers.drew _)
    have g4' : W4.ownsRow w.heap.size 61 1 (.slice (some ⟨w.heap.size + 4, 0, none⟩) m m) m (nums .u64 (out.set k z)) := by rw [hW4]; exact go.1.drew
    replace g0 := q g0 (by omega)
    replace g1 := q g1 (by omega)
    replace g2 := q g2 (by omega)
    replace g3 := q g3 (by omega)
    replace g5 := q g5 (by omega)
    replace g6 := q g6 (by omega)
    replace g7 := q g7 (by omega)
    clear q hW4 hw3 g4 go hz
    have c0 := blk_cell g0 0
    have c6 := blk_cell g6 0
    have c7 := blk_cell g7 0
    have F6 := blk_frozen g6 0
    have F7 := blk_frozen g7 0
    have ht := h4 hp
    clear h1 h4
    by_cases he : (t : Int) + 1 = a1
    ·rw [if_pos he] at hsn
     have heb : ((t : Int) + 1 == a1) = true := by simpa using he
     gi_wp2
     have HU := un_set7 (x := 0) 0 (un_set6 (x := (k : Int) + 1) (k + 1) (un_set7 (x := a1) (t + 1) (un_H g0 g1 g2 g3 g4' g5 g6 g7 hb4) (by omega)) (by omega)) (by omega)
     refine ⟨?_, ?_, _, _, _, hsn, by simp [h2], by omega, fun _ => by simpa using hp, by omega, HU⟩
     ·exact (hk4.trans ((KeepsOthers.setCell _ _ _).trans ((KeepsOthers.setCell _ _ _).trans (KeepsOthers.setCell _ _ _)))).from _
     ·exact hb4'.trans ((((Below.refl _ _).setCell (by simp; omega) _).setCell (by simp; omega) _).setCell (by simp; omega) _)
    ·rw [if_neg he] at hsn
     have heb : ((t : Int) + 1 == a1) = false := by simpa using he
     gi_wp2
     have HU := un_set7 (x := (t : Int) + 1) (t + 1) (un_H g0 g1 g2 g3 g4' g5 g6 g7 hb4) (by omega)
     refine ⟨?_, ?_, _, _, _, hsn, by simp [h2], by omega, fun _ => by omega, by omega, HU⟩
     ·exact (hk4.trans (KeepsOthers.setCell _ _ _)).from _
     ·exact hb4'.trans ((Below.refl _ _).setCell (by simp; omega) _)
   ·have hkb := decide_eq_false (show ¬ (k : Int) < (m : Int) by omega)
    rw [if_neg (fun h => hk h.2)] at hsn
    by_cases hx : x = 0
    ·rw [if_pos hx] at hsn
     have hxb : (x != 0) = false := by simpa using hx
     clear hx
     gi_wp2
     exact ⟨(KeepsOthers.refl W).from _, Below.refl _ W, _, _, _, hsn, h2, h3, h4, h5, un_H g0 g1 g2 g3 g4 g5 g6 g7 hb⟩
    ·rw [if_neg hx] at hsn
     have hxb : (x != 0) = true := by simpa using hx
     clear hx
     have F2 := blk_frozen g2 0
     have F3 := blk_frozen g3 0
     have c2 := blk_cell g2 0
     have c3 := blk_cell g3 0
     gi_wp2
     exact un_left g2 g3 hb hsn
  ·have hpb := decide_eq_false hp
   rw [if_neg (fun h => hp h.1)] at hsn
   by_cases hx : x = 0
   ·rw [if_pos hx] at hsn
    have hxb : (x != 0) = false := by simpa using hx
    clear hx
    gi_wp2
    exact ⟨(KeepsOthers.refl W).from _, Below.refl _ W, _, _, _, hsn, h2, h3, h4, h5, un_H g0 g1 g2 g3 g4 g5 g6 g7 hb⟩
   ·rw [if_neg hx] at hsn
    have hxb : (x != 0) = true := by simpa using hx
    clear hx
    have F2 := blk_frozen g2 0
    have F3 := blk_frozen g3 0
    have c2 := blk_cell g2 0
    have c3 := blk_cell g3 0
    gi_wp2
    exact un_left g2 g3 hb hsn
 case done =>
  rintro D ys W hD rfl ⟨out, k, t, h1, h2, h3, h4, h5, g0, g1, g2, g3, g4, g5, g6, g7, hb⟩ hK
  rw [h1] at H
  obtain ⟨rfl, rfl⟩ : out = r1 ∧ 0 = r2 := by simpa using H.out
  clear H h1 FI F8
  have c5 := blk_cell g5 0
  have F2 := blk_frozen g2 0
  have F3 := blk_frozen g3 0
  have c2 := blk_cell g2 0
  have c3 := blk_cell g3 0
  gi_wp2
  obtain ⟨hK', q2, q3, q4, q5⟩ := un_end h2 (by omega) g2 g3 g4 hb hK _ rfl
  refine ⟨by simp, .inl ⟨_, _, rfl, run_takeDeferred hK', ?_⟩⟩
  exact ⟨_, results_v2 rfl (.slice 61) (.int .i64) (by kernel_rfl) rfl (by kernel_rfl) rfl rfl rfl q2 q3, _, rfl, q4, q5⟩
 case stop =>
  rintro D c pre W hD ⟨mm, hmm, rfl⟩ ⟨rfl, h2, g2, g3, hb⟩ hK
  obtain ⟨q2, q3, q5⟩ := un_halt (by omega) g2 g3 hb hK
  rw [allB_split hmm, urun_app _ _ _ _ h2] at H
  obtain ⟨rfl, rfl⟩ : [] = r1 ∧ 8 = r2 := by simpa using H.out
  clear H FI F8
  gi_wp2
  refine ⟨by simp, .inl ⟨_, _, rfl, run_takeDeferred hK, ?_⟩⟩
  exact ⟨_, results_v2 rfl (.slice 61) (.int .i64) (by kernel_rfl) rfl (by kernel_rfl) rfl rfl rfl q2 q3, _, rfl, Kd.R_nil _ _ _ _ _, q5⟩
end
theorem un_badw (w : World) (a1 a2 r : Int) (nd : Nat) (W5 : World) (h5 : W5 = ((((((w.alloc (.cells #[.int .i64 a1] 3)).alloc (.cells #[.int .i64 a2] 3)).alloc (.cells #[.slice none 0 0] 65)).alloc (.cells #[.int .i64 0] 24)).drewN nd).setCell ⟨w.heap.size + 1 + 1, 0, none⟩ (.slice none 0 0)).setCell ⟨w.heap.size + 1 + 1 + 1, 0, none⟩ (.int .i64 r)) :
  W5.cell? ⟨w.heap.size + 1 + 1, 0, none⟩ = some (.slice none 0 0) ∧ W5.cell? ⟨w.heap.size + 1 + 1 + 1, 0, none⟩ = some (.int .i64 r) ∧ Below w.heap.size w W5 := by
 obtain ⟨W, hW⟩ : ∃ W, W = ((((w.alloc (.cells #[.int .i64 a1] 3)).alloc (.cells #[.int .i64 a2] 3)).alloc (.cells #[.slice none 0 0] 65)).alloc (.cells #[.int .i64 0] 24)).drewN nd := ⟨_, rfl⟩
 rw [← hW] at h5
 have g2 : W.heap[w.heap.size + 2]? = some (.cells #[.slice none 0 0] 65 (0,0)) := by rw [hW]; repeat (first | (refine heap_alloc_at _ _ ?_; ((try simp only [World.size_alloc, World.size_setCell, size_drewN]) <;> omega)) | (refine blk_alloc ?_ _) | (refine blk_drewN ?_ _))
 have g3 : W.heap[w.heap.size + 3]? = some (.cells #[.int .i64 0] 24 (0,0)) := by rw [hW]; repeat (first | (refine heap_alloc_at _ _ ?_; ((try simp only [World.size_alloc, World.size_setCell, size_drewN]) <;> omega)) | (refine blk_alloc ?_ _) | (refine blk_drewN ?_ _))
 have hb : Below w.heap.size w W := by rw [hW]; repeat (first | exact Below.refl _ _ | (refine below_alloc ?_ _) | (refine pw_below_drewN ?_ _))
 have a2 : W5.heap[w.heap.size + 2]? = some (.cells #[.slice none 0 0] 65 (0, 0)) := by rw [h5]; exact blk_far (blk_set g2 0 _) (by simp only []; omega) _
 have a3 : W5.heap[w.heap.size + 3]? = some (.cells #[.int .i64 r] 24 (0, 0)) := by rw [h5]; exact blk_set (blk_far g3 (by simp only []; omega) _) 0 _
 exact ⟨blk_cell a2 0, blk_cell a3 0, by rw [h5]; exact (hb.setCell (by simp only []; omega) _).setCell (by simp only []; omega) _⟩
set_option maxHeartbeats 1000000 in
theorem un_bad (k : Nat) (A0 : Option Addr) (c0 : Nat) (l0 : List Int) (a1 a2 s1 s2 : Int) (w : World) (hs : bits_Size.f k a1 a2 = some (s1, s2)) (r2 : Int) (hl : l0.length ≤ 9223372036854775807)
  (h : (s2 ≠ 0 ∧ r2 = s2) ∨ (s2 = 0 ∧ (l0.length : Int) < s1 ∧ r2 = 6) ∨ (s2 = 0 ∧ ¬ (l0.length : Int) < s1 ∧ s1 < (l0.length : Int) ∧ r2 = 7)) :
  Calls Try.prog 75 #[.slice A0 l0.length c0, .int .i64 a1, .int .i64 a2] w fun e w' => e = .returned (.tuple #[.slice none 0 0, .int .i64 r2]) ∧ Below w.heap.size w w' := by
 have Hs := Aside0.mk hs
 clear hs
 rcases h with ⟨h1, rfl⟩ | ⟨rfl, h2, rfl⟩ | ⟨rfl, h2, h3, rfl⟩
 ·have hb : (r2 != 0) = true := by simpa using h1
  clear h1
  go_enter Try.func75, Try.ntmps75
  go_wp2_with (go_at_call 55; refine (bits_Size.calls k a1 a2 s1 r2 _ Hs.out).mono ?_; rintro e w' ⟨rfl, ⟨nd, rfl⟩⟩)
  obtain ⟨q2, q3, q5⟩ := un_badw w a1 a2 _ nd _ rfl
  refine bodyPost_ret (results_v2 rfl (.slice 61) (.int .i64) (by kernel_rfl) rfl (by kernel_rfl) rfl rfl rfl q2 q3) rfl ?_
  exact ⟨rfl, q5⟩
 ·have h2b := decide_eq_true h2
  go_enter Try.func75, Try.ntmps75
  go_wp2_with (go_at_call 55; refine (bits_Size.calls k a1 a2 s1 0 _ Hs.out).mono ?_; rintro e w' ⟨rfl, ⟨nd, rfl⟩⟩)
  obtain ⟨q2, q3, q5⟩ := un_badw w a1 a2 _ nd _ rfl
  refine bodyPost_ret (results_v2 rfl (.slice 61) (.int .i64) (by kernel_rfl) rfl (by kernel_rfl) rfl rfl rfl q2 q3) rfl ?_
  exact ⟨rfl, q5⟩
 ·have h2b := decide_eq_false h2
  have h3b := decide_eq_true h3
  go_enter Try.func75, Try.ntmps75
  go_wp2_with (go_at_call 55; refine (bits_Size.calls k a1 a2 s1 0 _ Hs.out).mono ?_; rintro e w' ⟨rfl, ⟨nd, rfl⟩⟩)
  obtain ⟨q2, q3, q5⟩ := un_badw w a1 a2 _ nd _ rfl
  refine bodyPost_ret (results_v2 rfl (.slice 61) (.int .i64) (by kernel_rfl) rfl (by kernel_rfl) rfl rfl rfl q2 q3) rfl ?_
  exact ⟨rfl, q5⟩
theorem bits_Unpack.calls (k : Nat) (A0 : Option Addr) (c0 : Nat) (l0 : List Int) (a1 a2 : Int) (r1 : List Int) (r2 : Int) (w : World) (hr0 : Kd.C (Kd.int .u8) w A0 l0.length l0) (hc0 : l0.length ≤ c0) (h : bits_Unpack.f k l0 a1 a2 = some (r1, r2)) :
  Calls Try.prog 75 #[.slice A0 l0.length c0, .int .i64 a1, .int .i64 a2] w fun e w' => ∃ v0_ : Value, e = .returned (.tuple #[v0_, .int .i64 r2]) ∧ Kd.R (Kd.int .u64) 61 w' w.heap.size (fun _ => True) v0_ r1 ∧ Below w.heap.size w w' := by
 unfold bits_Unpack.f at h
 obtain ⟨⟨s1, s2⟩, hs, h⟩ := Option.bind_eq_some_iff.1 h
 have hl : l0.length ≤ 9223372036854775807 := hr0.2.1
 have bad : ∀ r, ((s2 ≠ 0 ∧ r = s2) ∨ (s2 = 0 ∧ (l0.length : Int) < s1 ∧ r = 6) ∨ (s2 = 0 ∧ ¬ (l0.length : Int) < s1 ∧ s1 < (l0.length : Int) ∧ r = 7)) → ([], r) = (r1, r2) →
   Calls Try.prog 75 #[.slice A0 l0.length c0, .int .i64 a1, .int .i64 a2] w fun e w' => ∃ v0_ : Value, e = .returned (.tuple #[v0_, .int .i64 r2]) ∧ Kd.R (Kd.int .u64) 61 w' w.heap.size (fun _ => True) v0_ r1 ∧ Below w.heap.size w w' := by
  intro r hr e
  obtain ⟨rfl, rfl⟩ : [] = r1 ∧ r = r2 := by simpa using e
  exact (un_bad k A0 c0 l0 a1 a2 s1 s2 w hs r hl hr).mono fun e w' ⟨he, hb⟩ => ⟨_, he, Kd.R_nil _ _ _ _ _, hb⟩
 by_cases c : s2 = 0
 ·rw [if_pos c] at h
  by_cases d : (l0.length : Int) < s1
  ·rw [if_pos d] at h
   exact bad 6 (.inr (.inl ⟨c, d, rfl⟩)) (Option.some.inj h)
  ·rw [if_neg d] at h
   by_cases e : s1 < (l0.length : Int)
   ·rw [if_pos e] at h
    exact bad 7 (.inr (.inr ⟨c, d, e, rfl⟩)) (Option.some.inj h)
   ·rw [if_neg e] at h
    by_cases g : 0 ≤ a1 ∧ a1 ≤ 64 ∧ 0 ≤ a2 ∧ a2 ≤ 1048576 ∧ l0.length ≤ 1048576
    ·rw [if_pos g] at h
     subst c
     exact (callsIn_wide (n := 4)).1 (un_main k A0 c0 l0 a1 a2 s1 w hr0 hc0 hs d e g.1 g.2.1 g.2.2.1 g.2.2.2.1 g.2.2.2.2 r1 r2 (Option.some.inj h) 4 (Nat.le_refl _))
    ·rw [if_neg g] at h
     exact absurd h (by simp)
 ·rw [if_neg c] at h
  exact bad s2 (.inl ⟨c, rfl⟩) (Option.some.inj h)

end Go.Proofs.Ytpibhiacmceekaa.X

namespace Go.Proofs.Ytpibhiacmceekaa.X
open Go.RowKit Go.Proofs.YtpibhiacmceekaaW.PrintWords Go.Proofs.YtpibhiacmceekaaW.PrintLast Go.Proofs.YtpibhiacmceekaaW.PrintMore
attribute [local go_sem] max2_int min2_int max_two min_two max_three min_three max_four min_four   -- for this text's walks alone
set_option linter.unusedVariables false
set_option linter.unusedSimpArgs false

/-! ### bits_ReadVarint: function 66 (by hand): a closure that holds the place is called in a loop -/
set_option maxHeartbeats 400000 in
theorem rv_next_no (w : World) (g0 g1 : Nat) (A : Option Addr) (n c : Nat) (a : Int) (hb : w.cell? ⟨g0, 0, none⟩ = some (.slice A n c)) (ha : w.cell? ⟨g1, 0, none⟩ = some (.int .i64 a)) (h : decide (a ≥ (n : Int)) = true) :
  Calls Try.prog 74 #[.pointer (some ⟨g1, 0, none⟩), .pointer (some ⟨g0, 0, none⟩)] w fun e w' => e = .returned (.tuple #[.int .u8 0, .bool false]) ∧ w' = w := by
 go_enter Try.func74, Try.ntmps74
 go_wp2
 go_ret2
 exact ⟨rfl, rfl⟩
set_option maxHeartbeats 400000 in
theorem rv_next_yes (w : World) (g0 g1 : Nat) (A : Option Addr) (n c : Nat) (xs : List Int) (a : Int) (hb : w.cell? ⟨g0, 0, none⟩ = some (.slice A n c)) (ha : w.cell? ⟨g1, 0, none⟩ = some (.int .i64 a)) (hf : w.frozen? ⟨g1, 0, none⟩ = false)
  (h0 : 0 ≤ a) (h1 : a < (n : Int)) (hn : n ≤ 9223372036854775807) (hne : g0 ≠ g1) (hC : Kd.C (Kd.int .u8) (w.setCell ⟨g1, 0, none⟩ (.int .i64 (a + 1))) A n xs) :
  Calls Try.prog 74 #[.pointer (some ⟨g1, 0, none⟩), .pointer (some ⟨g0, 0, none⟩)] w fun e w' => e = .returned (.tuple #[.int .u8 (rd xs a), .bool true]) ∧ w' = w.setCell ⟨g1, 0, none⟩ (.int .i64 (a + 1)) := by
 have hb' : (w.setCell ⟨g1, 0, none⟩ (.int .i64 (a + 1))).cell? ⟨g0, 0, none⟩ = some (.slice A n c) := by
  rw [World.cell?_setCell_other _ _ _ _ (by simp)]; exact hb
 obtain ⟨ad, rfl, hx⟩ := c_at hC a h0 h1
 clear hC
 go_enter Try.func74, Try.ntmps74
 go_wp2
 go_ret2
 exact ⟨rfl, rfl⟩

def rvn (n x s : Int) : Int := bits .or .u64 n (IntKind.u64.wrap (IntKind.u64.wrap (bits .and .u8 x 127) * 2 ^ s.toNat))
def rvl : Nat → List Int → Int → Int → Int → Int → Option (Int × Int × Int)
 | 0, _, _, _, _, _ => none
 | k + 1, b, fr, at_, s, n =>
  if at_ < b.length then
   (if s = 63 ∧ 1 < rd b at_ then some (0, 0, 110)
   else if rd b at_ < 128 then (if rd b at_ = 0 ∧ 1 < at_ + 1 - fr then some (0, 0, 8) else some (rvn n (rd b at_) s, at_ + 1, 0))
   else rvl k b fr (at_ + 1) (s + 7) (rvn n (rd b at_) s))
  else some (0, 0, 6)

set_option maxHeartbeats 1000000 in
theorem rv_walk (k : Nat) (A0 : Option Addr) (c0 : Nat) (l0 : List Int) (a1 : Int) (r1 r2 r3 : Int) (w : World) (hr0 : Kd.C (Kd.int .u8) w A0 l0.length l0) (hc0 : l0.length ≤ c0) (h0 : 0 ≤ a1) (h1 : a1 ≤ l0.length) (h : rvl k l0 a1 a1 0 0 = some (r1, r2, r3)) :
  Calls Try.prog 66 #[.slice A0 l0.length c0, .int .i64 a1] w fun e w' => e = .returned (.tuple #[.int .u64 r1, .int .i64 r2, .int .i64 r3]) ∧ Below w.heap.size w w' := by
 have hl : l0.length ≤ 9223372036854775807 := hr0.2.1
 have H' := Aside0.mk h
 clear h
 go_enter Try.func66, Try.ntmps66
 go_wp2
 go_step3
 go_wp2
 go_step3
 go_wp2
 have HB0 : Below w.heap.size w ((w.alloc (Obj.cells #[Value.slice A0 l0.length c0] 37)).alloc (Obj.cells #[Value.int IntKind.i64 a1] 3)) := below_alloc (below_alloc (Below.refl _ _) _) _
 go_loopg [9, 10, 11] k (fun kq v9 v10 v11 w' => ∃ (p s n last : Int), v9 = .int .u64 n ∧ v10 = .int .u8 last ∧ v11 = .int .i64 s ∧ Aside0 (rvl kq l0 a1 p s n = some (r1, r2, r3)) ∧ Aside0 (kq ≤ k) ∧ 0 ≤ s ∧ s ≤ 63 ∧ Aside0 (s % 7 = 0) ∧ a1 ≤ p ∧ p ≤ l0.length ∧
  w'.heap[w.heap.size]? = some (.cells #[.slice A0 l0.length c0] 37 (0, 0)) ∧ w'.heap[w.heap.size + 1]? = some (.cells #[.int .i64 p] 3 (0, 0)) ∧ Aside0 (Below w.heap.size w w'))
 case atStart => exact ⟨a1, 0, 0, 0, rfl, rfl, rfl, H', ⟨Nat.le_refl _⟩, by omega, by omega, ⟨rfl⟩, Int.le_refl _, h1, blk_alloc (blk_new _ _) _, (by have := blk_new (w.alloc (Obj.cells #[Value.slice A0 l0.length c0] 37)) (Obj.cells #[Value.int IntKind.i64 a1] 3); rwa [World.size_alloc] at this), ⟨HB0⟩⟩
 case round =>
  clear H' HB0
  obtain ⟨p, s, n, last, rfl, rfl, rfl, HA, HK, hs0, hs1, hs7, hp, hpl, HG0, HG1, HB⟩ := hrel
  cases gk with
  | zero => exact absurd HA.out (by simp [rvl])
  | succ k1 =>
   have H := HA.out
   clear HA
   simp only [rvl] at H
   have hb : wr.cell? ⟨w.heap.size, 0, none⟩ = some (.slice A0 l0.length c0) := blk_cell HG0 0
   have ha : wr.cell? ⟨w.heap.size + 1, 0, none⟩ = some (.int .i64 p) := blk_cell HG1 0
   by_cases hlt : p < l0.length
   ·rw [if_pos hlt] at H
    have hf : wr.frozen? ⟨w.heap.size + 1, 0, none⟩ = false := blk_frozen HG1 0
    have HB1 : Below w.heap.size w (wr.setCell ⟨w.heap.size + 1, 0, none⟩ (.int .i64 (p + 1))) := HB.out.setCell (p := ⟨w.heap.size + 1, 0, none⟩) (by simp) _
    have HB1 := Aside0.mk HB1
    have HG0' : (wr.setCell ⟨w.heap.size + 1, 0, none⟩ (.int .i64 (p + 1))).heap[w.heap.size]? = some (.cells #[.slice A0 l0.length c0] 37 (0, 0)) := blk_far HG0 (by simp) _
    have HG1' : (wr.setCell ⟨w.heap.size + 1, 0, none⟩ (.int .i64 (p + 1))).heap[w.heap.size + 1]? = some (.cells #[.int .i64 (p + 1)] 3 (0, 0)) := blk_set HG1 0 _
    have HG0' := Aside0.mk HG0'
    have HG1' := Aside0.mk HG1'
    have HN := rv_next_yes wr w.heap.size (w.heap.size + 1) A0 l0.length c0 l0 p hb ha hf (by omega) hlt hl (by omega) (Kd.C_below hr0 HB1.out)
    clear hb ha hf HG0 HG1 HB
    obtain ⟨x, hx⟩ : ∃ x, x = rd l0 p := ⟨_, rfl⟩
    rw [← hx] at H HN
    have H' := Aside0.mk H
    clear H hx
    go_wp2_with fail
    refine HN.mono ?_
    clear HN
    rintro e W1 ⟨rfl, hW1⟩
    rw [← hW1] at HB1 HG0' HG1'
    clear hW1
    have ha : W1.cell? ⟨w.heap.size + 1, 0, none⟩ = some (.int .i64 (p + 1)) := blk_cell HG1'.out 0
    by_cases h9 : s = 63
    ·have h9b : (s == 63) = true := beq_iff_eq.2 h9
     have h9 := Aside0.mk h9
     by_cases h1x : 1 < x
     ·have h1b := decide_eq_true h1x
      have H := H'.out
      rw [if_pos ⟨h9.out, h1x⟩] at H
      obtain ⟨rfl, rfl, rfl⟩ : 0 = r1 ∧ 0 = r2 ∧ 110 = r3 := by simpa using H
      clear H H'
      go_wp2
      rw [Exit.noGoto_ret]
      go_ret3
      exact ⟨rfl, HB1.out⟩
     ·have h1b := decide_eq_false h1x
      have hv := Aside0.mk (show rvn n x s = bits .or .u64 n (IntKind.u64.wrap (IntKind.u64.wrap (bits .and .u8 x 127) * 9223372036854775808)) by rw [h9.out]; rfl)
      by_cases h128 : x < 128
      ·have h128b := decide_eq_true h128
       by_cases hx0 : x = 0
       ·have hx0b : (x == 0) = true := beq_iff_eq.2 hx0
        by_cases hfr : 1 < p + 1 - a1
        ·have H := H'.out
         rw [if_neg (fun h => h1x h.2), if_pos h128, if_pos ⟨hx0, hfr⟩] at H
         obtain ⟨rfl, rfl, rfl⟩ : 0 = r1 ∧ 0 = r2 ∧ 8 = r3 := by simpa using H
         clear H H' hx0
         go_wp2
         rw [Exit.noGoto_ret]
         go_ret3
         exact ⟨rfl, HB1.out⟩
        ·have H := H'.out
         rw [if_neg (fun h => h1x h.2), if_pos h128, if_neg (fun h => hfr h.2)] at H
         obtain ⟨rfl, rfl, rfl⟩ : rvn n x s = r1 ∧ p + 1 = r2 ∧ 0 = r3 := by simpa using H
         clear H H' hx0
         go_wp2
         go_quiet (fail)
         go_wp2
         rw [Exit.noGoto_ret]
         go_ret3
         exact ⟨by rw [hv.out]; rfl, by repeat (first | exact HB1.out | apply pw_below_drewN | apply below_drew1)⟩
       ·have hx0b : (x == 0) = false := beq_eq_false_iff_ne.2 hx0
        have H := H'.out
        rw [if_neg (fun h => h1x h.2), if_pos h128, if_neg (fun h => hx0 h.1)] at H
        obtain ⟨rfl, rfl, rfl⟩ : rvn n x s = r1 ∧ p + 1 = r2 ∧ 0 = r3 := by simpa using H
        clear H H' hx0
        go_wp2
        go_quiet (fail)
        go_wp2
        rw [Exit.noGoto_ret]
        go_ret3
        exact ⟨by rw [hv.out]; rfl, by repeat (first | exact HB1.out | apply pw_below_drewN | apply below_drew1)⟩
      ·have h128b := decide_eq_false h128
       exact absurd h128 (by omega)
    ·have h9b : (s == 63) = false := beq_eq_false_iff_ne.2 h9
     have h9 := Aside0.mk h9
     by_cases h128 : x < 128
     ·have h128b := decide_eq_true h128
      by_cases hx0 : x = 0
      ·have hx0b : (x == 0) = true := beq_iff_eq.2 hx0
       by_cases hfr : 1 < p + 1 - a1
       ·have H := H'.out
        rw [if_neg (fun h => h9.out h.1), if_pos h128, if_pos ⟨hx0, hfr⟩] at H
        obtain ⟨rfl, rfl, rfl⟩ : 0 = r1 ∧ 0 = r2 ∧ 8 = r3 := by simpa using H
        clear H H' hx0
        go_wp2
        rw [Exit.noGoto_ret]
        go_ret3
        exact ⟨rfl, HB1.out⟩
       ·have H := H'.out
        rw [if_neg (fun h => h9.out h.1), if_pos h128, if_neg (fun h => hfr h.2)] at H
        obtain ⟨rfl, rfl, rfl⟩ : rvn n x s = r1 ∧ p + 1 = r2 ∧ 0 = r3 := by simpa using H
        clear H H' hx0
        go_wp2
        go_quiet (fail)
        go_wp2
        rw [Exit.noGoto_ret]
        go_ret3
        exact ⟨rfl, by repeat (first | exact HB1.out | apply pw_below_drewN | apply below_drew1)⟩
      ·have hx0b : (x == 0) = false := beq_eq_false_iff_ne.2 hx0
       have H := H'.out
       rw [if_neg (fun h => h9.out h.1), if_pos h128, if_neg (fun h => hx0 h.1)] at H
       obtain ⟨rfl, rfl, rfl⟩ : rvn n x s = r1 ∧ p + 1 = r2 ∧ 0 = r3 := by simpa using H
       clear H H' hx0
       go_wp2
       go_quiet (fail)
       go_wp2
       rw [Exit.noGoto_ret]
       go_ret3
       exact ⟨rfl, by repeat (first | exact HB1.out | apply pw_below_drewN | apply below_drew1)⟩
     ·have h128b := decide_eq_false h128
      have H := H'.out
      rw [if_neg (fun h => h9.out h.1), if_neg h128] at H
      clear H'
      have H' := Aside0.mk H
      clear H
      go_wp2
      go_roundg k1
      case measure => have := HK.out; omega
      case rel => exact ⟨p + 1, s + 7, rvn n x s, x, rfl, rfl, rfl, H', ⟨by have := HK.out; omega⟩, by omega, by have := h9.out; have := hs7.out; omega, ⟨by have := hs7.out; omega⟩, by omega, by omega, HG0'.out, HG1'.out, ⟨HB1.out⟩⟩
   ·rw [if_neg hlt] at H
    obtain ⟨rfl, rfl, rfl⟩ : 0 = r1 ∧ 0 = r2 ∧ 6 = r3 := by simpa using H
    clear H
    have HN := rv_next_no wr w.heap.size (w.heap.size + 1) A0 l0.length c0 p hb ha (decide_eq_true (by omega))
    go_wp2_with fail
    refine HN.mono ?_
    clear HN
    rintro e W1 ⟨rfl, rfl⟩
    go_wp2
    rw [Exit.noGoto_ret]
    go_ret3
    exact ⟨rfl, HB.out⟩

def bits_ReadVarint.f (k : Nat) (l0 : List Int) (a1 : Int) : Option (Int × Int × Int) := if a1 < 0 then some (0, 0, 2) else if a1 > (l0.length : Int) then some (0, 0, 2) else rvl k l0 a1 a1 0 0
theorem rvl_mono : ∀ k b fr p s n, LeO (rvl k b fr p s n) (rvl (k + 1) b fr p s n)
 | 0, _, _, _, _, _ => LeO.none _
 | k + 1, b, fr, p, s, n => by
  rw [rvl, rvl]
  exact LeO.ite (LeO.ite (LeO.refl _) (LeO.ite (LeO.refl _) (rvl_mono k _ _ _ _ _))) (LeO.refl _)
theorem bits_ReadVarint.mono : ∀ l0 a1 k, LeO (bits_ReadVarint.f k l0 a1) (bits_ReadVarint.f (k + 1) l0 a1) := by
 intro l0 a1 k
 unfold bits_ReadVarint.f
 exact LeO.ite (LeO.refl _) (LeO.ite (LeO.refl _) (rvl_mono k _ _ _ _ _))
set_option maxHeartbeats 400000 in
theorem rv_bad (A0 : Option Addr) (c0 : Nat) (l0 : List Int) (a1 : Int) (w : World) (h : a1 < 0 ∨ a1 > (l0.length : Int)) :
  Calls Try.prog 66 #[.slice A0 l0.length c0, .int .i64 a1] w fun e w' => e = .returned (.tuple #[.int .u64 0, .int .i64 0, .int .i64 2]) ∧ Below w.heap.size w w' := by
 by_cases h0 : a1 < 0
 ·clear h
  have h0b := decide_eq_true h0
  go_enter Try.func66, Try.ntmps66
  go_wp2
  go_step3
  go_wp2
  rw [Exit.noGoto_ret]
  go_ret3
  exact ⟨rfl, below_alloc (below_alloc (Below.refl _ _) _) _⟩
 ·have h1 : (l0.length : Int) < a1 := by omega
  clear h
  have h0b := decide_eq_false h0
  have h1b := decide_eq_true h1
  go_enter Try.func66, Try.ntmps66
  go_wp2
  go_step3
  go_wp2
  rw [Exit.noGoto_ret]
  go_ret3
  exact ⟨rfl, below_alloc (below_alloc (Below.refl _ _) _) _⟩
theorem bits_ReadVarint.calls (k : Nat) (A0 : Option Addr) (c0 : Nat) (l0 : List Int) (a1 : Int) (r1 : Int) (r2 : Int) (r3 : Int) (w : World) (hr0 : Kd.C (Kd.int .u8) w A0 l0.length l0) (hc0 : l0.length ≤ c0) (h : bits_ReadVarint.f k l0 a1 = some (r1, r2, r3)) :
  Calls Try.prog 66 #[.slice A0 l0.length c0, .int .i64 a1] w fun e w' => e = .returned (.tuple #[.int .u64 r1, .int .i64 r2, .int .i64 r3]) ∧ Below w.heap.size w w' := by
 unfold bits_ReadVarint.f at h
 by_cases c : a1 < 0
 ·rw [if_pos c] at h
  obtain ⟨rfl, rfl, rfl⟩ : 0 = r1 ∧ 0 = r2 ∧ 2 = r3 := by simpa using h
  exact rv_bad A0 c0 l0 a1 w (.inl c)
 ·rw [if_neg c] at h
  by_cases d : a1 > (l0.length : Int)
  ·rw [if_pos d] at h
   obtain ⟨rfl, rfl, rfl⟩ : 0 = r1 ∧ 0 = r2 ∧ 2 = r3 := by simpa using h
   exact rv_bad A0 c0 l0 a1 w (.inr d)
  ·rw [if_neg d] at h
   exact rv_walk k A0 c0 l0 a1 r1 r2 r3 w hr0 hc0 (by omega) (by omega) h

end Go.Proofs.Ytpibhiacmceekaa.X

namespace Go.Proofs.Ytpibhiacmceekaa.X
open Go.RowKit Go.Proofs.YtpibhiacmceekaaW.PrintWords Go.Proofs.YtpibhiacmceekaaW.PrintLast Go.Proofs.YtpibhiacmceekaaW.PrintMore
set_option linter.unusedVariables false
set_option linter.unusedSimpArgs false

/-- What is given up with. -/
def stopP (why : Int) : List PanicEntry := [{ v := .iface 114 (.agg #[.int .i64 why]), recovered := false }]
theorem hy_must_ok (why : Int) (w : World) : Calls Try.prog 64 #[.bool true, .int .i64 why] w fun e w' => (∃ v, e = .returned v) ∧ w' = w := by
  go_enter Try.func64, Try.ntmps64
  go_wp2
  go_end0
  exact ⟨⟨_, rfl⟩, rfl⟩
theorem hy_must_no (why : Int) (w : World) : Calls Try.prog 64 #[.bool false, .int .i64 why] w fun e w' => e = .panicked (stopP why) ∧ w' = w := by
  go_enter Try.func64, Try.ntmps64
  go_wp2
  exact ⟨rfl, rfl, rfl⟩
theorem hy_right_ok (w : World) : Calls Try.prog 67 #[.int .i64 0] w fun e w' => (∃ v, e = .returned v) ∧ w' = w := by
  have HM := Aside0.mk (fun why W => hy_must_ok why W)
  go_enter Try.func67, Try.ntmps67
  go_wp2_with fail
  refine (HM.out _ _).mono ?_
  rintro e W ⟨⟨v, rfl⟩, rfl⟩
  go_wp2
  go_end0
  exact ⟨⟨_, rfl⟩, rfl⟩
theorem hy_right_no (why : Int) (h : why ≠ 0) (w : World) : Calls Try.prog 67 #[.int .i64 why] w fun e w' => e = .panicked (stopP why) ∧ w' = w := by
  have HM := Aside0.mk (fun why W => hy_must_no why W)
  have hb : (why == 0) = false := by simp [h]
  clear h
  go_enter Try.func67, Try.ntmps67
  go_wp2_with fail
  refine (HM.out _ _).mono ?_
  rintro e W ⟨rfl, rfl⟩
  exact ⟨rfl, rfl, rfl⟩

/-- The blocks that the reader's call lays: its bytes, its results, its state. -/
def HyB (w0 w : World) : Prop := Below w0.heap.size w0 w ∧ w.heap[w0.heap.size + 1]? = some (.cells #[.slice none 0 0, .slice none 0 0, .int .i64 0] 82 (0, 0)) ∧ w.heap[w0.heap.size + 2]? = some (.cells #[.int .i64 0] 24 (0, 0))
def HyI (w0 : World) (vb : Value) (l : List Int) (at_ : Int) (M : Nat) (w : World) : Prop :=
  ∃ lv rv m rs, HyB w0 w ∧ w.heap[w0.heap.size]? = some (.cells #[vb] 37 (0, 0)) ∧ w.heap[w0.heap.size + 3]? = some (.cells #[lv, rv, .int .i64 at_] 82 (0, 0)) ∧
    w.ownsRow w0.heap.size 3 1 lv l.length (nums .i64 l) ∧ w.ownsRow w0.heap.size 118 2 rv m rs ∧ m ≤ M
theorem HyB.below {w0 w w' : World} (h : HyB w0 w) (hb : Below w.heap.size w w') : HyB w0 w' := ⟨h.1.trans (hb.mono h.1.size), blk_below h.2.1 hb, blk_below h.2.2 hb⟩
theorem own_below' {w w' : World} {base n : Nat} {e : TypeId} {size : Nat} {v : Value} {xs : List Value} (h : w.ownsRow base e size v n xs) (hb : Below w.heap.size w w') : w'.ownsRow base e size v n xs :=
  h.kept (row := none) ⟨hb.os, hb.tape, hb.output, hb.size, fun k hk _ => hb.block k hk⟩ (by cases hv : v.ownBlock <;> simp)
theorem HyI.below {w0 w w' : World} {vb : Value} {l : List Int} {a : Int} {M : Nat} (h : HyI w0 vb l a M w) (hb : Below w.heap.size w w') : HyI w0 vb l a M w' := by
  obtain ⟨lv, rv, m, rs, h1, h2, h3, h4, h5, h6⟩ := h
  exact ⟨lv, rv, m, rs, h1.below hb, blk_below h2 hb, blk_below h3 hb, own_below' h4 hb, own_below' h5 hb, h6⟩
theorem own_apart {w : World} {base n1 n2 s1 s2 : Nat} {e1 e2 : TypeId} {v1 v2 : Value} {xs1 xs2 : List Value} (h1 : w.ownsRow base e1 s1 v1 n1 xs1) (h2 : w.ownsRow base e2 s2 v2 n2 xs2) (hne : e1 ≠ e2) : v2.ownBlock = none ∨ v2.ownBlock ≠ v1.ownBlock := by
  obtain ⟨_, h2 | ⟨g, cap, cur, rfl, hb, hg, _⟩⟩ := h2
  · left; rw [h2.1]; rfl
  · right; exact own_ne h1 hg hne
/-- A store of the place. -/
theorem HyI.setAt {w0 w : World} {vb : Value} {l : List Int} {a : Int} {M : Nat} (h : HyI w0 vb l a M w) (a' : Int) : HyI w0 vb l a' M (w.setCell ⟨w0.heap.size + 3, 2, none⟩ (.int .i64 a')) := by
  obtain ⟨lv, rv, m, rs, ⟨hb, hb1, hb2⟩, h2, h3, h4, h5, h6⟩ := h
  refine ⟨lv, rv, m, rs, ⟨hb.setCell (p := ⟨w0.heap.size + 3, 2, none⟩) (by simp) _, blk_far hb1 (by simp) _, blk_far hb2 (by simp) _⟩, blk_far h2 (by simp) _, blk_set h3 2 _, own_setCell h4 (own_ne h4 h3 (by decide)) _, own_setCell h5 (own_ne h5 h3 (by decide)) _, h6⟩
/-- An append to the numbers, and the store of what it hands back. -/
theorem HyI.putL {w0 w w1 : World} {lv rv v1 : Value} {m : Nat} {rs : List Value} {l ys : List Int} {vb : Value} {a : Int} (hB : HyB w0 w) (h2 : w.heap[w0.heap.size]? = some (.cells #[vb] 37 (0, 0))) (h3 : w.heap[w0.heap.size + 3]? = some (.cells #[lv, rv, .int .i64 a] 82 (0, 0)))
    (h4 : w.ownsRow w0.heap.size 3 1 lv l.length (nums .i64 l)) (h5 : w.ownsRow w0.heap.size 118 2 rv m rs) {M : Nat} (h6 : m ≤ M)
    (ho : w1.ownsRow w0.heap.size 3 1 v1 ys.length (nums .i64 ys)) (hb : Below w0.heap.size w0 w1) (hg : w.grownBy w1 lv.ownBlock) : HyI w0 vb ys a M (w1.setCell ⟨w0.heap.size + 3, 0, none⟩ v1) := by
  have g3 := blk_grown h3 hg (own_ne h4 h3 (by decide))
  refine ⟨v1, rv, m, rs, ⟨hb.setCell (p := ⟨w0.heap.size + 3, 0, none⟩) (by simp) _, blk_far (blk_grown hB.2.1 hg (own_ne h4 hB.2.1 (by decide))) (by simp) _, blk_far (blk_grown hB.2.2 hg (own_ne h4 hB.2.2 (by decide))) (by simp) _⟩,
    blk_far (blk_grown h2 hg (own_ne h4 h2 (by decide))) (by simp) _, blk_set g3 0 _, own_setCell ho (own_ne ho g3 (by decide)) _, own_setCell (own_other h5 hg (own_apart h4 h5 (by decide))) ?_ _, h6⟩
  exact own_ne (own_other h5 hg (own_apart h4 h5 (by decide))) g3 (by decide)
/-- An append to the runs, and its store. -/
theorem HyI.putR {w0 w w1 : World} {lv rv v1 : Value} {m m' : Nat} {rs rs' : List Value} {l : List Int} {vb : Value} {a : Int} (hB : HyB w0 w) (h2 : w.heap[w0.heap.size]? = some (.cells #[vb] 37 (0, 0))) (h3 : w.heap[w0.heap.size + 3]? = some (.cells #[lv, rv, .int .i64 a] 82 (0, 0)))
    (h4 : w.ownsRow w0.heap.size 3 1 lv l.length (nums .i64 l)) (h5 : w.ownsRow w0.heap.size 118 2 rv m rs) {M : Nat} (h6 : m' ≤ M)
    (ho : w1.ownsRow w0.heap.size 118 2 v1 m' rs') (hb : Below w0.heap.size w0 w1) (hg : w.grownBy w1 rv.ownBlock) : HyI w0 vb l a M (w1.setCell ⟨w0.heap.size + 3, 1, none⟩ v1) := by
  have g3 := blk_grown h3 hg (own_ne h5 h3 (by decide))
  refine ⟨lv, v1, m', rs', ⟨hb.setCell (p := ⟨w0.heap.size + 3, 1, none⟩) (by simp) _, blk_far (blk_grown hB.2.1 hg (own_ne h5 hB.2.1 (by decide))) (by simp) _, blk_far (blk_grown hB.2.2 hg (own_ne h5 hB.2.2 (by decide))) (by simp) _⟩,
    blk_far (blk_grown h2 hg (own_ne h5 h2 (by decide))) (by simp) _, blk_set g3 1 _, own_setCell (own_other h4 hg (own_apart h5 h4 (by decide))) ?_ _, own_setCell ho (own_ne ho g3 (by decide)) _, h6⟩
  exact own_ne (own_other h4 hg (own_apart h5 h4 (by decide))) g3 (by decide)
end Go.Proofs.Ytpibhiacmceekaa.X

namespace Go.Proofs.Ytpibhiacmceekaa.X
open Go.RowKit Go.Proofs.YtpibhiacmceekaaW.PrintWords Go.Proofs.YtpibhiacmceekaaW.PrintLast Go.Proofs.YtpibhiacmceekaaW.PrintMore
set_option linter.unusedVariables false
set_option linter.unusedSimpArgs false

def hyRep (k : Nat) (b : List Int) (W n left : Int) (l : List Int) (a : Int) : Option (Int × List Int × Int) :=
  if n ≤ left then (if (W + 7) / 8 ≤ (b.length : Int) - a then (bits_ReadLittle.f k b a ((W + 7) / 8)).bind fun x => (bits_Width.f k x.1).bind fun t => if t ≤ W then (if 0 ≤ x.1 ∧ x.1 ≤ 4294967295 then some (0, l ++ List.replicate n.toNat x.1, a + (W + 7) / 8) else none) else some (8, [], 0) else some (6, [], 0)) else some (8, [], 0)
/-- How a part of the reading ends: done, or given up. -/
def HyOut (w0 : World) (vb : Value) (r : Int) (l : List Int) (a : Int) (M : Nat) (e : Ending) (w : World) : Prop :=
  (r = 0 ∧ (∃ v, e = .returned v) ∧ HyI w0 vb l a M w) ∨ (r ≠ 0 ∧ e = .panicked (stopP r) ∧ HyB w0 w)
theorem HyI.b {w0 w : World} {vb : Value} {l : List Int} {a : Int} {M : Nat} (h : HyI w0 vb l a M w) : HyB w0 w := by
  obtain ⟨_, _, _, _, h1, _⟩ := h; exact h1
theorem HyI.at_ {w0 w : World} {vb : Value} {l : List Int} {a : Int} {M : Nat} (h : HyI w0 vb l a M w) : w.cell? ⟨w0.heap.size + 3, 2, none⟩ = some (.int .i64 a) ∧ w.frozen? ⟨w0.heap.size + 3, 2, none⟩ = false := by
  obtain ⟨_, _, _, _, _, _, h3, _⟩ := h; exact ⟨blk_cell h3 2, blk_frozen h3 2⟩
theorem hy_info : (Try.prog.info? 3).map (fun i => (i.zero, i.size, i.bytes)) = some (some (.int .i64 0), 1, 8) := by kernel_rfl
theorem hy_infoR : (Try.prog.info? 118).map (fun i => (i.zero, i.size, i.bytes)) = some (some (.agg #[.bool false, .int .i64 0]), 2, 16) := by kernel_rfl
set_option maxRecDepth 100000 in
set_option maxHeartbeats 4000000 in
theorem hy_repeated (k : Nat) (w0 : World) (A : Option Addr) (c : Nat) (b : List Int) (W n left a : Int) (l : List Int) (r : Int) (l' : List Int) (a' : Int) (w : World) (hC : Kd.C (Kd.int .u8) w0 A b.length b) (hc : b.length ≤ c) (M : Nat) (hI : HyI w0 (.slice A b.length c) l a M w) (hM : M ≤ 200000000)
    (hW0 : 0 ≤ W) (hW1 : W ≤ 32) (hn0 : 1 ≤ n) (hn1 : n ≤ 4194304) (hl0 : 0 ≤ left) (hl1 : left ≤ 65536) (ha0 : 0 ≤ a) (ha1 : a ≤ b.length) (hb1 : b.length ≤ 1048576) (hll : l.length ≤ 65536) (h : hyRep k b W n left l a = some (r, l', a')) :
    Calls Try.prog 68 #[.pointer (some ⟨w0.heap.size + 3, 0, none⟩), .slice A b.length c, .int .i64 W, .int .i64 n, .int .i64 left] w (HyOut w0 (.slice A b.length c) r l' a' (M + 1)) := by
  have HC := Aside0.mk hC
  have HI := Aside0.mk hI
  have MO := Aside0.mk (fun why W => hy_must_ok why W)
  have MN := Aside0.mk (fun why W => hy_must_no why W)
  clear hC hI
  unfold hyRep at h
  by_cases c1 : n ≤ left
  · have d1 := decide_eq_true c1
    rw [if_pos c1] at h
    by_cases c2 : (W + 7) / 8 ≤ (b.length : Int) - a
    · have d2 := decide_eq_true c2
      rw [if_pos c2] at h
      obtain ⟨⟨x, xe⟩, hx, h⟩ := Option.bind_eq_some_iff.1 h
      obtain ⟨t, ht, h⟩ := Option.bind_eq_some_iff.1 h
      have HX := Aside0.mk (fun W' hC' => bits_ReadLittle.calls k A c b a ((W + 7) / 8) x xe W' hC' hc hx)
      have HT := Aside0.mk (fun W' => bits_Width.calls k x t W' ht)
      have H := Aside0.mk h
      obtain ⟨q0, q1⟩ := HI.out.at_
      clear hx ht h c1 q1
      go_enter Try.func68, Try.ntmps68
      go_wp2_with fail
      refine (MO.out _ _).mono ?_
      rintro e W1 ⟨⟨v1, rfl⟩, rfl⟩
      go_wp2_with fail
      refine (MO.out _ _).mono ?_
      rintro e W2 ⟨⟨v2, rfl⟩, rfl⟩
      go_wp2_with fail
      refine (HX.out _ (Kd.C_below HC.out HI.out.b.1)).mono ?_
      rintro e W3 ⟨rfl, hd3⟩
      have HI3 := Aside0.mk (HI.out.below hd3.below)
      clear HI HX hd3 q0 d1 d2
      by_cases c3 : t ≤ W
      · have d3 := decide_eq_true c3
        have H2 := H.out
        rw [if_pos c3] at H2
        by_cases c4 : 0 ≤ x ∧ x ≤ 4294967295
        · rw [if_pos c4] at H2
          have H' := Aside0.mk (show 0 = r ∧ l ++ List.replicate n.toNat x = l' ∧ a + (W + 7) / 8 = a' by simpa using H2)
          obtain ⟨x0, x1⟩ := c4
          clear H H2 c3
          go_wp2_with fail
          refine (HT.out _).mono ?_
          rintro e W4 ⟨rfl, hd4⟩
          have HI4 := Aside0.mk (HI3.out.below hd4.below)
          clear HI3 HT hd4
          go_wp2_with fail
          refine (MO.out _ _).mono ?_
          rintro e W5 ⟨⟨v5, rfl⟩, rfl⟩
          obtain ⟨q0, q1⟩ := HI4.out.at_
          go_wp2
          have HI5 := Aside0.mk (HI4.out.setAt (a + (W + 7) / 8))
          clear HI4 q0 q1 d3
          go_loopw [54] (fun v54 w' => ∃ j : Nat, v54 = .int .i64 j ∧ (j : Int) ≤ n ∧ Aside0 (HyI w0 (.slice A b.length c) (l ++ List.replicate j x) (a + (W + 7) / 8) M w')) (fun v54 _ => n.toNat - (intOf v54).toNat)
          case atStart => exact ⟨0, rfl, by omega, by simpa using HI5⟩
          case round =>
            clear HI5
            obtain ⟨j, rfl, hj, HJ⟩ := hrel
            obtain ⟨lv, rv, m, rs, hB, h2, h3, h4, h5, h6⟩ := HJ.out
            have HB := Aside0.mk hB
            have H2' := Aside0.mk h2
            have H3 := Aside0.mk h3
            have H4 := Aside0.mk h4
            have H5 := Aside0.mk h5
            have H6 := Aside0.mk h6
            clear HJ hB h2 h3 h4 h5 h6
            by_cases hlt : (j : Int) < n
            · have hltb := decide_eq_true hlt
              have q0 : wr.cell? ⟨w0.heap.size + 3, 0, none⟩ = some lv := blk_cell H3.out 0
              obtain ⟨ys, hys⟩ : ∃ ys, ys = l ++ List.replicate j x := ⟨_, rfl⟩
              rw [← hys] at H4
              have hyl : ys.length ≤ 200000000 := by rw [hys, List.length_append, List.length_replicate]; omega
              have Hys := Aside0.mk (show ys ++ [x] = l ++ List.replicate (j + 1) x by rw [hys, List.append_assoc, ← List.replicate_succ'])
              have HS := Aside0.mk (show w0.heap.size ≤ wr.heap.size from HB.out.1.size)
              clear hys
              go_wp2_with (first | ((with_reducible refine gate_builtin (b := .append) (xs := #[.tmp 60, .tmp 63]) rfl ?_); at_builtin; refine print_append_num (w0 := w0) w0.heap.size rfl (.tmp 60) (.tmp 63) 23 3 .i64 8 rfl Try.underlying23 hy_info (by decide) lv ys x rfl rfl H4.out HB.out.1 HS.out (by omega) ?_; intro v2 w2 ho2 hb2 hg2 hat2; obtain ⟨bk, cap, rfl, hbk, _⟩ := ho2.form (by simp); have q02 : w2.cell? ⟨w0.heap.size + 3, 0, none⟩ = some lv := blk_cell (blk_grown H3.out hg2 (own_ne H4.out H3.out (by decide))) 0; have q12 : w2.frozen? ⟨w0.heap.size + 3, 0, none⟩ = false := blk_frozen (blk_grown H3.out hg2 (own_ne H4.out H3.out (by decide))) 0; have ho2 := Aside0.mk ho2; have hb2 := Aside0.mk hb2; have hg2 := Aside0.mk hg2; clear hat2 q0))
              go_roundw
              case measure => simp [intOf]; omega
              case rel => exact ⟨j + 1, by go_num, by omega, ⟨by have := HyI.putL (a := a + (W + 7) / 8) HB.out H2'.out H3.out H4.out H5.out H6.out ho2.out hb2.out hg2.out; rwa [show (ys ++ [x]).length = ys.length + 1 from by simp, Hys.out] at this⟩⟩
            · have hltb := decide_eq_false hlt
              have q0 : wr.cell? ⟨w0.heap.size + 3, 1, none⟩ = some rv := blk_cell H3.out 1
              have HS := Aside0.mk (show w0.heap.size ≤ wr.heap.size from HB.out.1.size)
              have hjn : (j : Int) = n := by omega
              have hlen : (l ++ List.replicate j x).length ≤ 200000000 := by rw [List.length_append, List.length_replicate]; omega
              have hj1 : 1 ≤ j := by omega
              have HM := Aside0.mk (show m ≤ 200000000 from Nat.le_trans H6.out hM)
              go_wp2_with (first | ((with_reducible refine gate_builtin (b := .append) (xs := #[.tmp 72, .tmp 75]) rfl ?_); at_builtin; refine print_append_cells (w0 := w0) w0.heap.size rfl (.tmp 72) (.tmp 75) 80 118 (.agg #[.bool false, .int .i64 0]) 2 16 rfl Try.underlying80 hy_infoR rfl (by decide) (by decide) rv m rs [.bool false, .int .i64 n] rfl rfl rfl (by simp [Value.oneCell']) H5.out HB.out.1 HS.out (by have := HM.out; omega) ?_; intro v2 w2 ho2 hb2 hg2 hat2; obtain ⟨bk, cap, rfl, hbk, _⟩ := ho2.form (by simp); have q02 : w2.cell? ⟨w0.heap.size + 3, 1, none⟩ = some rv := blk_cell (blk_grown H3.out hg2 (own_ne H5.out H3.out (by decide))) 1; have q12 : w2.frozen? ⟨w0.heap.size + 3, 1, none⟩ = false := blk_frozen (blk_grown H3.out hg2 (own_ne H5.out H3.out (by decide))) 1; have ho2 := Aside0.mk ho2; have hb2 := Aside0.mk hb2; have hg2 := Aside0.mk hg2; clear hat2 q0))
              go_end0
              obtain ⟨rfl, rfl, rfl⟩ := H'.out
              refine .inl ⟨rfl, ⟨_, rfl⟩, ?_⟩
              have := HyI.putR (M := M + 1) (a := a + (W + 7) / 8) HB.out H2'.out H3.out H4.out H5.out (by have := H6.out; omega) ho2.out hb2.out hg2.out
              rwa [show n.toNat = j by omega]
        · rw [if_neg c4] at H2
          exact absurd H2 (by simp)
      · have d3 := decide_eq_false c3
        have H2 := H.out
        rw [if_neg c3] at H2
        have H' := Aside0.mk (show 8 = r ∧ [] = l' ∧ 0 = a' by simpa using H2)
        clear H H2 c3
        go_wp2_with fail
        refine (HT.out _).mono ?_
        rintro e W4 ⟨rfl, hd4⟩
        have HI4 := Aside0.mk (HI3.out.below hd4.below)
        clear HI3 HT hd4
        go_wp2_with fail
        refine (MN.out _ _).mono ?_
        rintro e W5 ⟨rfl, rfl⟩
        obtain ⟨rfl, rfl, rfl⟩ := H'.out
        exact ⟨rfl, .inr ⟨by decide, rfl, HI4.out.b⟩⟩
    · have d2 := decide_eq_false c2
      rw [if_neg c2] at h
      have H' := Aside0.mk (show 6 = r ∧ [] = l' ∧ 0 = a' by simpa using h)
      obtain ⟨q0, q1⟩ := HI.out.at_
      clear h c1 q1 c2
      go_enter Try.func68, Try.ntmps68
      go_wp2_with fail
      refine (MO.out _ _).mono ?_
      rintro e W1 ⟨⟨v1, rfl⟩, rfl⟩
      go_wp2_with fail
      refine (MN.out _ _).mono ?_
      rintro e W5 ⟨rfl, rfl⟩
      obtain ⟨rfl, rfl, rfl⟩ := H'.out
      exact ⟨rfl, .inr ⟨by decide, rfl, HI.out.b⟩⟩
  · have d1 := decide_eq_false c1
    rw [if_neg c1] at h
    have H' := Aside0.mk (show 8 = r ∧ [] = l' ∧ 0 = a' by simpa using h)
    clear h c1
    go_enter Try.func68, Try.ntmps68
    go_wp2_with fail
    refine (MN.out _ _).mono ?_
    rintro e W5 ⟨rfl, rfl⟩
    obtain ⟨rfl, rfl, rfl⟩ := H'.out
    exact ⟨rfl, .inr ⟨by decide, rfl, HI.out.b⟩⟩
end Go.Proofs.Ytpibhiacmceekaa.X

namespace Go.Proofs.Ytpibhiacmceekaa.X
open Go.RowKit Go.Proofs.YtpibhiacmceekaaW.PrintWords Go.Proofs.YtpibhiacmceekaaW.PrintLast Go.Proofs.YtpibhiacmceekaaW.PrintMore
set_option linter.unusedVariables false
set_option linter.unusedSimpArgs false

def hyPut (left : Int) : List Int → Int → List Int → Option (Int × List Int)
  | [], _, l => some (0, l)
  | x :: xs, i, l => if i < left then (if 0 ≤ x ∧ x ≤ 9223372036854775807 then hyPut left xs (i + 1) (l ++ [x]) else none) else if x = 0 then hyPut left xs (i + 1) l else some (8, [])
def hyPack (k : Nat) (b : List Int) (W n left : Int) (l : List Int) (a : Int) : Option (Int × List Int × Int) :=
  if n ≤ (left + 7) / 8 then (if n * W ≤ (b.length : Int) - a then (bits_Unpack.f k ((b.take (a + n * W).toNat).drop a.toNat) W (8 * n)).bind fun u => if u.2 = 0 then (hyPut left u.1 0 l).bind fun p => if p.1 = 0 then some (0, p.2, a + n * W) else some (p.1, [], 0) else some (u.2, [], 0) else some (6, [], 0)) else some (8, [], 0)
theorem hy_slice (A : Option Addr) (c len : Nat) (lo hi : Int) (h0 : 0 ≤ lo) (h1 : lo ≤ hi) (h2 : hi ≤ (c : Int)) (W : World) :
    (Instr.slice 37 (.slice A len c) (some (.int .i64 lo)) (some (.int .i64 hi)) none).run Try.prog W = .ok (.slice (if c = lo.toNat then A else A.map (·.add (lo.toNat * 1))) (hi.toNat - lo.toNat) (c - lo.toNat)) W := by
  have e1 : lo.toNat ≤ hi.toNat := by omega
  have hs : (Try.prog.info? 5).map (·.size) = some 1 := by kernel_rfl
  cases hq : Try.prog.info? 5 with
  | none => simp [hq] at hs
  | some i =>
    have hs1 : i.size = 1 := by simpa [hq] using hs
    obtain ⟨l, rfl⟩ := Int.eq_ofNat_of_zero_le h0
    obtain ⟨h, rfl⟩ := Int.eq_ofNat_of_zero_le (show 0 ≤ hi by omega)
    unfold Instr.slice
    simp only [Sem.run_bind, run_underlying Try.underlying37, Result.andThen_ok]
    simp only [Instr.sliceBounds, Sem.run_bind, Sem.run_pure, Result.andThen_ok]
    have r1 := run_sliceBound (P := Try.prog) W .i64 (h : Int) c .sliceAcap (by omega) h2
    have r2 := run_sliceBound (P := Try.prog) W .i64 (l : Int) h .sliceB (by omega) h1
    simp [r1, r2, sizeOf, typeInfo, hq, hs1, Sem.run_bind]
theorem hy_drop {l : List Int} {i : Nat} (h : i < l.length) : l.drop i = l.getD i 0 :: l.drop (i + 1) := by
  rw [List.drop_eq_getElem_cons h, List.getD_eq_getElem?_getD, List.getElem?_eq_getElem h]; rfl
set_option maxRecDepth 100000 in
set_option maxHeartbeats 8000000 in
theorem hy_packed (k : Nat) (w0 : World) (A : Option Addr) (c : Nat) (b : List Int) (W n left a : Int) (l : List Int) (r : Int) (l' : List Int) (a' : Int) (w : World) (hC : Kd.C (Kd.int .u8) w0 A b.length b) (hc : b.length ≤ c) (M : Nat) (hI : HyI w0 (.slice A b.length c) l a M w) (hM : M ≤ 200000000)
    (hW0 : 0 ≤ W) (hW1 : W ≤ 32) (hn0 : 1 ≤ n) (hn1 : n ≤ 4194304) (hl0 : 0 ≤ left) (hl1 : left ≤ 65536) (ha0 : 0 ≤ a) (ha1 : a ≤ b.length) (hb1 : b.length ≤ 1048576) (hll : l.length ≤ 65536) (h : hyPack k b W n left l a = some (r, l', a')) :
    Calls Try.prog 69 #[.pointer (some ⟨w0.heap.size + 3, 0, none⟩), .slice A b.length c, .int .i64 W, .int .i64 n, .int .i64 left] w (HyOut w0 (.slice A b.length c) r l' a' (M + 1)) := by
  have HC := Aside0.mk hC
  have HI := Aside0.mk hI
  have MO := Aside0.mk (fun why W => hy_must_ok why W)
  have MN := Aside0.mk (fun why W => hy_must_no why W)
  have RO := Aside0.mk (fun W => hy_right_ok W)
  have RN := Aside0.mk (fun why h W => hy_right_no why h W)
  clear hC hI
  unfold hyPack at h
  have hp0 : 0 ≤ n * W := Int.mul_nonneg (by omega) hW0
  have hp1 : n * W ≤ 134217728 := by have := Int.mul_le_mul hn1 hW1 hW0 (by omega); omega
  by_cases c1 : n ≤ (left + 7) / 8
  · have d1 := decide_eq_true c1
    rw [if_pos c1] at h
    by_cases c2 : n * W ≤ (b.length : Int) - a
    · have d2 := decide_eq_true c2
      rw [if_pos c2] at h
      obtain ⟨⟨u, ue⟩, hu, h⟩ := Option.bind_eq_some_iff.1 h
      have H := Aside0.mk h
      obtain ⟨q0, q1⟩ := HI.out.at_
      have e1 : (a + n * W).toNat = a.toNat + (n * W).toNat := by omega
      obtain ⟨V, hV⟩ : ∃ V, V = Value.slice (if c = a.toNat then A else A.map (·.add (a.toNat * 1))) ((a + n * W).toNat - a.toNat) (c - a.toNat) := ⟨_, rfl⟩
      have hsl := fun W' => hy_slice A c b.length a (a + n * W) ha0 (by omega) (by omega) W'
      have HU : ∀ W', Below w0.heap.size w0 W' → Calls Try.prog 75 #[V, .int .i64 W, .int .i64 (8 * n)] W' fun e w' => ∃ v0_ : Value, e = .returned (.tuple #[v0_, .int .i64 ue]) ∧ Kd.R (Kd.int .u64) 61 w' W'.heap.size (fun _ => True) v0_ u ∧ Below W'.heap.size W' w' := by
        intro W' hB'
        have hm := Kd.C_mid (lo := a.toNat) (hi := (a + n * W).toNat) (c := c) (Kd.C_below HC.out hB') (by omega) (by omega) hc
        have hlen : ((b.take (a + n * W).toNat).drop a.toNat).length = (a + n * W).toNat - a.toNat := by rw [List.length_drop, List.length_take]; omega
        have := bits_Unpack.calls k _ (c - a.toNat) ((b.take (a + n * W).toNat).drop a.toNat) W (8 * n) u ue W' hm (by rw [hlen]; omega) hu
        rw [hlen] at this
        rw [hV]; exact this
      rw [← hV] at hsl
      have HU := Aside0.mk HU
      clear h c1 q1 hV hu e1
      go_enter Try.func69, Try.ntmps69
      go_wp2_with fail
      refine (MO.out _ _).mono ?_
      rintro e W1 ⟨⟨v1, rfl⟩, rfl⟩
      go_wp2_with fail
      refine (MO.out _ _).mono ?_
      rintro e W2 ⟨⟨v2, rfl⟩, rfl⟩
      go_wp2_with fail
      have g1 : IntKind.i64.wrap (n * W) = n * W := IntWalk.i64_in _ (by omega)
      have g2 : IntKind.i64.wrap (a + n * W) = a + n * W := IntWalk.i64_in _ (by omega)
      have g3 : IntKind.i64.wrap (8 * n) = 8 * n := IntWalk.i64_in _ (by omega)
      go_region_with (go_at_call 75; refine (HU.out _ (by repeat (first | exact HI.out.b.1 | apply pw_below_drewN | apply below_drew1))).mono ?_; rintro e W3 ⟨v0, rfl, hR, hB⟩)
      all_goals
        clear g1 g2 g3 hsl HU
        have hB' : Below W2.heap.size W2 W3 := (below_drew (Below.refl W2.heap.size W2)).trans hB
        have HI3 := Aside0.mk (show HyI w0 (.slice A b.length c) l a M W3 from HI.out.below hB')
        have HU3 := Aside0.mk (Kd.own_of_R (Kd.R_lower hR (show w0.heap.size ≤ W2.heap.size from HI.out.b.1.size)))
        obtain ⟨Ao, co, rfl⟩ := Kd.R_slice hR
        have hul : u.length ≤ 9223372036854775807 := (Kd.R_reads' hR).2.2.2.1
        clear hR hB hB' HI q0
        by_cases c3 : ue = 0
        · subst c3
          have H2 := H.out
          rw [if_pos rfl] at H2
          obtain ⟨⟨pe, pl⟩, hp, H2⟩ := Option.bind_eq_some_iff.1 H2
          have HP := Aside0.mk hp
          have H' := Aside0.mk H2
          clear H hp H2
          go_wp2_with fail
          refine (RO.out _).mono ?_
          rintro e W5 ⟨⟨v5, rfl⟩, rfl⟩
          obtain ⟨q0, q1⟩ := HI3.out.at_
          go_wp2
          have HI5 := Aside0.mk (HI3.out.setAt (a + n * W))
          have HU5 := Aside0.mk (own_setCell HU3.out (p := ⟨w0.heap.size + 3, 2, none⟩) (by obtain ⟨_, _, _, _, _, _, h3, _⟩ := HI3.out; exact own_ne HU3.out h3 (by decide)) (.int .i64 (a + n * W)))
          clear HI3 HU3 q0 q1
          go_loopw [67] (fun v67 w' => ∃ (j : Nat) (l1 : List Int), v67 = .int .i64 j ∧ j ≤ u.length ∧ Aside0 (hyPut left (u.drop j) (j : Int) l1 = some (pe, pl)) ∧ Aside0 (l1.length ≤ l.length + j ∧ l1.length ≤ l.length + 65536) ∧ Aside0 (HyI w0 (.slice A b.length c) l1 (a + n * W) M w') ∧ Aside0 (w'.ownsRow w0.heap.size 61 1 (.slice Ao u.length co) u.length (nums .u64 u))) (fun v67 _ => u.length - (intOf v67).toNat)
          case atStart => exact ⟨0, l, rfl, Nat.zero_le _, HP, ⟨by omega, by omega⟩, HI5, HU5⟩
          case round =>
            clear HI5 HU5 HP
            obtain ⟨j, l1, rfl, hj, HP, HL, HJ, HU⟩ := hrel
            obtain ⟨lv, rv, m, rs, hB, h2, h3, h4, h5, h6⟩ := HJ.out
            have HB := Aside0.mk hB
            have H2' := Aside0.mk h2
            have H3 := Aside0.mk h3
            have H4 := Aside0.mk h4
            have H5 := Aside0.mk h5
            have H6 := Aside0.mk h6
            clear hB h2 h3 h4 h5 h6
            by_cases hlt : j < u.length
            · have hP := HP.out
              rw [hy_drop hlt, hyPut] at hP
              obtain ⟨g, cap, hform, _⟩ := HU.out.form (by omega)
              simp only [Value.slice.injEq] at hform
              obtain ⟨rfl, _, rfl⟩ := hform
              obtain ⟨qx, _⟩ := own_at HU.out (j : Int) (by omega) (by omega)
              have e : rd u (j : Int) = u.getD j 0 := rfl
              rw [e, show ((j : Int)).toNat = j from rfl] at qx
              obtain ⟨x, hx⟩ : ∃ x, x = u.getD j 0 := ⟨_, rfl⟩
              rw [← hx] at qx hP
              clear e hx HP
              by_cases c4 : (j : Int) < left
              · have d4 := decide_eq_true c4
                rw [if_pos c4] at hP
                by_cases c5 : 0 ≤ x ∧ x ≤ 9223372036854775807
                · rw [if_pos c5] at hP
                  obtain ⟨x0, x1⟩ := c5
                  have HP' := Aside0.mk hP
                  clear hP HJ
                  have q0 : wr.cell? ⟨w0.heap.size + 3, 0, none⟩ = some lv := blk_cell H3.out 0
                  have hyl : l1.length ≤ 200000000 := by have := HL.out; omega
                  have HS := Aside0.mk (show w0.heap.size ≤ wr.heap.size from HB.out.1.size)
                  go_wp2_with fail
                  refine (MO.out _ _).mono ?_
                  rintro e W7 ⟨⟨v7, rfl⟩, rfl⟩
                  go_wp2_with (first | ((with_reducible refine gate_builtin (b := .append) (xs := #[.tmp 87, .tmp 90]) rfl ?_); at_builtin; refine print_append_num (w0 := w0) w0.heap.size rfl (.tmp 87) (.tmp 90) 23 3 .i64 8 rfl Try.underlying23 hy_info (by decide) lv l1 x rfl rfl H4.out HB.out.1 HS.out (by omega) ?_; intro v2 w2 ho2 hb2 hg2 hat2; obtain ⟨bk, cap, rfl, hbk, _⟩ := ho2.form (by simp); have q02 : w2.cell? ⟨w0.heap.size + 3, 0, none⟩ = some lv := blk_cell (blk_grown H3.out hg2 (own_ne H4.out H3.out (by decide))) 0; have q12 : w2.frozen? ⟨w0.heap.size + 3, 0, none⟩ = false := blk_frozen (blk_grown H3.out hg2 (own_ne H4.out H3.out (by decide))) 0; have ho2 := Aside0.mk ho2; have hb2 := Aside0.mk hb2; have hg2 := Aside0.mk hg2; clear hat2 q0))
                  go_roundw
                  case measure => simp [intOf]; omega
                  case rel => exact ⟨j + 1, l1 ++ [x], by go_num, by omega, HP', ⟨by have := HL.out; simp; omega⟩, ⟨by have := HyI.putL (a := a + n * W) HB.out H2'.out H3.out H4.out H5.out H6.out ho2.out hb2.out hg2.out; rwa [show (l1 ++ [x]).length = l1.length + 1 from by simp] at this⟩, ⟨by have g3 := blk_grown H3.out hg2.out (own_ne H4.out H3.out (by decide)); have := own_other HU.out hg2.out (own_apart H4.out HU.out (by decide)); exact own_setCell this (own_ne this g3 (by decide)) _⟩⟩
                · rw [if_neg c5] at hP
                  exact absurd hP (by simp)
              · have d4 := decide_eq_false c4
                rw [if_neg c4] at hP
                by_cases c5 : x = 0
                · have d5 : (x == 0) = true := by simp [c5]
                  rw [if_pos c5] at hP
                  have HP' := Aside0.mk hP
                  clear hP c5
                  go_wp2_with fail
                  refine (MO.out _ _).mono ?_
                  rintro e W7 ⟨⟨v7, rfl⟩, rfl⟩
                  go_wp2
                  go_roundw
                  case measure => simp [intOf]; omega
                  case rel => exact ⟨j + 1, l1, by go_num, by omega, HP', ⟨by have := HL.out; omega⟩, HJ, HU⟩
                · have d5 : (x == 0) = false := by simp [c5]
                  rw [if_neg c5] at hP
                  obtain ⟨rfl, rfl⟩ : 8 = pe ∧ [] = pl := by simpa using hP
                  have HQ := Aside0.mk (show 8 = r ∧ [] = l' ∧ 0 = a' by simpa using H'.out)
                  clear hP c5 H'
                  go_wp2_with fail
                  refine (MN.out _ _).mono ?_
                  rintro e W7 ⟨rfl, rfl⟩
                  obtain ⟨rfl, rfl, rfl⟩ := HQ.out
                  exact ⟨rfl, .inr ⟨by decide, rfl, HB.out⟩⟩
            · have hP := HP.out
              rw [List.drop_eq_nil_of_le (by omega), hyPut] at hP
              obtain ⟨rfl, rfl⟩ : 0 = pe ∧ l1 = pl := by simpa using hP
              have HQ := Aside0.mk (show 0 = r ∧ l1 = l' ∧ a + n * W = a' by simpa using H'.out)
              clear hP HP H' HJ HU
              have q0 : wr.cell? ⟨w0.heap.size + 3, 1, none⟩ = some rv := blk_cell H3.out 1
              have HS := Aside0.mk (show w0.heap.size ≤ wr.heap.size from HB.out.1.size)
              have HM := Aside0.mk (show m ≤ 200000000 from Nat.le_trans H6.out hM)
              go_wp2_with (first | ((with_reducible refine gate_builtin (b := .append) (xs := #[.tmp 99, .tmp 105]) rfl ?_); at_builtin; refine print_append_cells (w0 := w0) w0.heap.size rfl (.tmp 99) (.tmp 105) 80 118 (.agg #[.bool false, .int .i64 0]) 2 16 rfl Try.underlying80 hy_infoR rfl (by decide) (by decide) rv m rs [_, _] rfl rfl rfl (by simp [Value.oneCell']) H5.out HB.out.1 HS.out (by have := HM.out; omega) ?_; intro v2 w2 ho2 hb2 hg2 hat2; obtain ⟨bk, cap, rfl, hbk, _⟩ := ho2.form (by simp); have q02 : w2.cell? ⟨w0.heap.size + 3, 1, none⟩ = some rv := blk_cell (blk_grown H3.out hg2 (own_ne H5.out H3.out (by decide))) 1; have q12 : w2.frozen? ⟨w0.heap.size + 3, 1, none⟩ = false := blk_frozen (blk_grown H3.out hg2 (own_ne H5.out H3.out (by decide))) 1; have ho2 := Aside0.mk ho2; have hb2 := Aside0.mk hb2; have hg2 := Aside0.mk hg2; clear hat2 q0))
              all_goals
                go_end0
                obtain ⟨rfl, rfl, rfl⟩ := HQ.out
                exact .inl ⟨rfl, ⟨_, rfl⟩, HyI.putR (M := M + 1) (a := a + n * W) HB.out H2'.out H3.out H4.out H5.out (by have := H6.out; omega) ho2.out hb2.out hg2.out⟩
        · have H2 := H.out
          rw [if_neg c3] at H2
          have H' := Aside0.mk (show ue = r ∧ [] = l' ∧ 0 = a' by simpa using H2)
          clear H H2
          have HN := Aside0.mk (fun W => RN.out ue c3 W)
          have C3 := Aside0.mk c3
          clear c3
          go_wp2_with fail
          refine (HN.out _).mono ?_
          rintro e W5 ⟨rfl, rfl⟩
          obtain ⟨h1, rfl, rfl⟩ := H'.out
          rw [← h1]
          exact ⟨rfl, .inr ⟨C3.out, rfl, HI3.out.b⟩⟩
    · have d2 := decide_eq_false c2
      rw [if_neg c2] at h
      have H' := Aside0.mk (show 6 = r ∧ [] = l' ∧ 0 = a' by simpa using h)
      obtain ⟨q0, q1⟩ := HI.out.at_
      clear h c1 q1 c2
      go_enter Try.func69, Try.ntmps69
      go_wp2_with fail
      refine (MO.out _ _).mono ?_
      rintro e W1 ⟨⟨v1, rfl⟩, rfl⟩
      go_wp2_with fail
      refine (MN.out _ _).mono ?_
      rintro e W5 ⟨rfl, rfl⟩
      obtain ⟨rfl, rfl, rfl⟩ := H'.out
      exact ⟨rfl, .inr ⟨by decide, rfl, HI.out.b⟩⟩
  · have d1 := decide_eq_false c1
    rw [if_neg c1] at h
    have H' := Aside0.mk (show 8 = r ∧ [] = l' ∧ 0 = a' by simpa using h)
    clear h c1
    go_enter Try.func69, Try.ntmps69
    go_wp2_with fail
    refine (MN.out _ _).mono ?_
    rintro e W5 ⟨rfl, rfl⟩
    obtain ⟨rfl, rfl, rfl⟩ := H'.out
    exact ⟨rfl, .inr ⟨by decide, rfl, HI.out.b⟩⟩
end Go.Proofs.Ytpibhiacmceekaa.X

namespace Go.Proofs.Ytpibhiacmceekaa.X
open Go.RowKit Go.Proofs.YtpibhiacmceekaaW.PrintWords Go.Proofs.YtpibhiacmceekaaW.PrintLast Go.Proofs.YtpibhiacmceekaaW.PrintMore
set_option linter.unusedVariables false
set_option linter.unusedSimpArgs false

theorem caught_no (p : Addr) (w : World) :
    CallsD Try.prog 63 #[.pointer (some p)] .returning w fun e u' w' => (∃ v, e = .returned v) ∧ u' = .returning ∧ w' = w := by
  refine callsD_of_wpS Try.func63 rfl fun c₀ cs hu => ?_
  apply wpS_seq
  apply wpS_region
  simp [wpOpsS, go_sem, recoverD, hu, Try.ntmps63, Exit.thenS]
  refine wpS_of_wp ?_
  go_wp2
  cases c₀
  simp_all [bodyPostS, results, Try.results63]
theorem hy_assert (why : Int) (W : World) : (Instr.typeAssert (.iface 114 (.agg #[.int .i64 why])) 20 114 true).run Try.prog W = .ok (.tuple #[.agg #[.int .i64 why], .bool true]) W := by kernel_rfl
set_option maxRecDepth 100000 in
set_option maxHeartbeats 1000000 in
theorem caught_yes (p : Addr) (x why : Int) (w : World) (hc : w.cell? p = some (.int .i64 x)) (hz : w.frozen? p = false) (hp : p.block < w.heap.size) :
    CallsD Try.prog 63 #[.pointer (some p)] (.panicking (stopP why)) w fun e u' w' =>
      (∃ v, e = .returned v) ∧ u' = .panicking [{ v := .iface 114 (.agg #[.int .i64 why]), recovered := true }] ∧ w' = (w.alloc (.cells #[.int .i64 why] 114)).setCell p (.int .i64 why) := by
  refine callsD_of_wpS Try.func63 rfl fun c₀ cs hu => ?_
  unfold stopP at hu
  apply wpS_seq
  apply wpS_region
  simp [wpOpsS, go_sem, recoverD, hu, Try.ntmps63, Exit.thenS]
  refine wpS_of_wp ?_
  clear hu
  have e : (#[Value.pointer (some p)] ++ (Array.replicate 14 undef).setIfInBounds 4 (.iface 114 (.agg #[.int .i64 why]))) = #[Value.pointer (some p), undef, undef, undef, undef, .iface 114 (.agg #[.int .i64 why]), undef, undef, undef, undef, undef, undef, undef, undef, undef] := rfl
  rw [e]
  clear e
  have ht := hy_assert why
  have hc' : (w.alloc (.cells #[.int .i64 why] 114)).cell? p = some (.int .i64 x) := by rw [World.cell?_alloc_lt _ _ _ hp]; exact hc
  have hz' : (w.alloc (.cells #[.int .i64 why] 114)).frozen? p = false := by
    have := (below_alloc (Below.refl w.heap.size w) (.cells #[.int .i64 why] 114)).frozen (p := p) hp
    rw [this]; exact hz
  clear hc hz hp
  go_wp2_with fail
  cases c₀
  simp_all [bodyPostS, results, Try.results63]
/-- How the head of a run ends. -/
def HyHd (w0 : World) (vb : Value) (l : List Int) (M : Nat) (h nx er : Int) (e : Ending) (w : World) : Prop :=
  (er = 0 ∧ 2 ≤ h ∧ h ≤ 4194304 ∧ e = .returned (.int .i64 h) ∧ HyI w0 vb l nx M w) ∨ (er = 0 ∧ ¬ (2 ≤ h ∧ h ≤ 4194304) ∧ e = .panicked (stopP 8) ∧ HyB w0 w) ∨ (er ≠ 0 ∧ e = .panicked (stopP er) ∧ HyB w0 w)
theorem HyI.bytes {w0 w : World} {vb : Value} {l : List Int} {a : Int} {M : Nat} (h : HyI w0 vb l a M w) : w.cell? ⟨w0.heap.size, 0, none⟩ = some vb := by
  obtain ⟨_, _, _, _, _, h2, _⟩ := h; exact blk_cell h2 0
set_option maxRecDepth 100000 in
set_option maxHeartbeats 2000000 in
theorem hy_head (k : Nat) (w0 : World) (A : Option Addr) (c : Nat) (b : List Int) (a : Int) (l : List Int) (M : Nat) (h nx er : Int) (w : World) (hC : Kd.C (Kd.int .u8) w0 A b.length b) (hc : b.length ≤ c) (hI : HyI w0 (.slice A b.length c) l a M w)
    (hx : bits_ReadVarint.f k b a = some (h, nx, er)) :
    Calls Try.prog 65 #[.pointer (some ⟨w0.heap.size, 0, none⟩), .pointer (some ⟨w0.heap.size + 3, 0, none⟩)] w (HyHd w0 (.slice A b.length c) l M h nx er) := by
  have HI := Aside0.mk hI
  have MO := Aside0.mk (fun why W => hy_must_ok why W)
  have MN := Aside0.mk (fun why W => hy_must_no why W)
  have RO := Aside0.mk (fun W => hy_right_ok W)
  have RN := Aside0.mk (fun why h W => hy_right_no why h W)
  have HV := Aside0.mk (bits_ReadVarint.calls k A c b a h nx er w (Kd.C_below hC hI.b.1) hc hx)
  have q0 := hI.bytes
  obtain ⟨q1, _⟩ := hI.at_
  clear hC hI hx
  go_enter Try.func65, Try.ntmps65
  go_wp2_with fail
  refine HV.out.mono ?_
  rintro e W1 ⟨rfl, hB⟩
  have HI1 := Aside0.mk (HI.out.below hB)
  clear hB HI q0 q1
  by_cases c1 : er = 0
  · subst c1
    go_wp2_with fail
    refine (RO.out _).mono ?_
    rintro e W2 ⟨⟨v2, rfl⟩, rfl⟩
    by_cases c2 : 2 ≤ h
    · have d2 := decide_eq_true c2
      by_cases c3 : h ≤ 4194304
      · have d3 := decide_eq_true c3
        go_wp2_with fail
        refine (MO.out _ _).mono ?_
        rintro e W3 ⟨⟨v3, rfl⟩, rfl⟩
        obtain ⟨q0, q1⟩ := HI1.out.at_
        go_wp2
        go_ret
        exact .inl ⟨rfl, by omega, by omega, rfl, HI1.out.setAt nx⟩
      · have d3 := decide_eq_false c3
        have C3 := Aside0.mk c3
        clear c3
        go_wp2_with fail
        refine (MN.out _ _).mono ?_
        rintro e W3 ⟨rfl, rfl⟩
        exact ⟨rfl, .inr (.inl ⟨rfl, fun h => by have := C3.out; omega, rfl, HI1.out.b⟩)⟩
    · have d2 := decide_eq_false c2
      have C2 := Aside0.mk c2
      clear c2
      go_wp2_with fail
      refine (MN.out _ _).mono ?_
      rintro e W3 ⟨rfl, rfl⟩
      exact ⟨rfl, .inr (.inl ⟨rfl, fun h => by have := C2.out; omega, rfl, HI1.out.b⟩)⟩
  · have C1 := Aside0.mk c1
    have HN := Aside0.mk (fun W => RN.out er c1 W)
    clear c1
    go_wp2_with fail
    refine (HN.out _).mono ?_
    rintro e W2 ⟨rfl, rfl⟩
    exact ⟨rfl, .inr (.inr ⟨C1.out, rfl, HI1.out.b⟩)⟩
end Go.Proofs.Ytpibhiacmceekaa.X

namespace Go.Proofs.Ytpibhiacmceekaa.X
open Go.RowKit Go.Proofs.YtpibhiacmceekaaW.PrintWords Go.Proofs.YtpibhiacmceekaaW.PrintLast Go.Proofs.YtpibhiacmceekaaW.PrintMore
set_option linter.unusedVariables false
set_option linter.unusedSimpArgs false

def hyAll : Nat → List Int → Int → Int → List Int → Int → Option (Int × List Int × Int)
  | 0, _, _, _, _, _ => none
  | k + 1, b, W, count, l, a =>
    if (l.length : Int) < count then (bits_ReadVarint.f k b a).bind fun v =>
      if v.2.2 = 0 then (if 2 ≤ v.1 ∧ v.1 ≤ 4194304 then (if 0 ≤ v.2.1 ∧ v.2.1 ≤ (b.length : Int) then
        (if v.1 % 2 = 0 then hyRep k b W (v.1 / 2) (count - l.length) l v.2.1 else hyPack k b W (v.1 / 2) (count - l.length) l v.2.1).bind fun p =>
          if p.1 = 0 then (if l.length < p.2.1.length ∧ (p.2.1.length : Int) ≤ count ∧ 0 ≤ p.2.2 ∧ p.2.2 ≤ (b.length : Int) then hyAll k b W count p.2.1 p.2.2 else none) else some (p.1, [], 0) else none) else some (8, [], 0)) else some (v.2.2, [], 0)
    else some (0, l, a)
def hyF (k : Nat) (b : List Int) (W count : Int) : Option (Int × List Int × Int) :=
  if W < 0 then some (2, [], 0) else if 32 < W then some (2, [], 0) else if count < 0 then some (2, [], 0) else if 1048576 < (b.length : Int) then some (3, [], 0) else if 65536 < count then some (3, [], 0) else hyAll k b W count [] 0
/-- How the reading ends. -/
def HyEnd (w0 : World) (r : Int) (l : List Int) (a : Int) (e : Ending) (w : World) : Prop :=
  ∃ lv Ar m cr, e = .returned (.tuple #[.agg #[lv, .slice Ar m cr, .int .i64 a], .int .i64 r]) ∧ w.ownsRow w0.heap.size 3 1 lv l.length (nums .i64 l) ∧ Below w0.heap.size w0 w
theorem hy_results (tmps : Array Value) (w : World) (g6 g7 : Nat) (x y z : Value) (n : Int) (h6 : tmps.getD 6 undef = .pointer (some ⟨g6, 0, none⟩)) (h7 : tmps.getD 7 undef = .pointer (some ⟨g7, 0, none⟩))
    (hg6 : w.heap[g6]? = some (.cells #[x, y, z] 82 (0, 0))) (hg7 : w.heap[g7]? = some (.cells #[.int .i64 n] 24 (0, 0))) :
    (results Try.f53 tmps).run Try.prog w = .ok (.tuple #[.agg #[x, y, z], .int .i64 n]) w := by
  have h6' : tmps[6]?.getD undef = .pointer (some ⟨g6, 0, none⟩) := by simpa using h6
  have h7' : tmps[7]?.getD undef = .pointer (some ⟨g7, 0, none⟩) := by simpa using h7
  have r6 := run_loadVar_row (P := Try.prog) w g6 82 82 #[x, y, z] (0, 0) _ hg6 Try.underlying82 rfl (by kernel_rfl)
  have hc : w.cell? ⟨g7, 0, none⟩ = some (.int .i64 n) := blk_cell hg7 0
  have r7 : (loadVar 24 ⟨g7, 0, none⟩).run Try.prog w = .ok (.int .i64 n) w := by
    simp [loadVar, isAgg, Sem.run_bind, run_underlying Try.underlying24, hc, go_sem]
  simp [results, Try.results53, h6', h7', asAddr, r6, r7]
theorem hy_start (w : World) (vb : Value) : HyB w (((w.alloc (.cells #[vb] 37)).alloc (.cells #[.slice none 0 0, .slice none 0 0, .int .i64 0] 82)).alloc (.cells #[.int .i64 0] 24)) := by
  refine ⟨below_alloc (below_alloc (below_alloc (Below.refl _ _) _) _) _, ?_, ?_⟩
  · have := blk_new (w.alloc (.cells #[vb] 37)) (.cells #[.slice none 0 0, .slice none 0 0, .int .i64 0] 82)
    rw [World.size_alloc] at this
    exact blk_alloc this _
  · have := blk_new ((w.alloc (.cells #[vb] 37)).alloc (.cells #[.slice none 0 0, .slice none 0 0, .int .i64 0] 82)) (.cells #[.int .i64 0] 24)
    rwa [World.size_alloc, World.size_alloc] at this
def hyDef (w0 : World) : List Deferred := [{ target := .fn (.func 63) #[], args := #[.pointer (some ⟨w0.heap.size + 1 + 1, 0, none⟩)] }]
theorem hy_giveup {w0 w1 : World} {why : Int} (tmps : Array Value) (h6 : tmps.getD 6 undef = .pointer (some ⟨w0.heap.size + 1, 0, none⟩)) (h7 : tmps.getD 7 undef = .pointer (some ⟨w0.heap.size + 1 + 1, 0, none⟩)) (hB : HyB w0 w1) :
    bodyPostD Try.prog Try.f53 (HyEnd w0 why [] 0) (Exit.panic (stopP why)) { tmps := tmps, defers := hyDef w0 } w1 := by
  unfold bodyPostD hyDef
  refine leaves_cons (f := 63) (args := #[.pointer (some ⟨w0.heap.size + 1 + 1, 0, none⟩)]) (by simp) (by simp [go_sem]) ?_
  refine (caught_yes ⟨w0.heap.size + 1 + 1, 0, none⟩ 0 why w1 (blk_cell hB.2.2 0) (blk_frozen hB.2.2 0) (blk_lt hB.2.2)).mono ?_
  rintro e u' w'' ⟨⟨v, rfl⟩, rfl, rfl⟩
  have g6 : ((w1.alloc (.cells #[.int .i64 why] 114)).setCell ⟨w0.heap.size + 1 + 1, 0, none⟩ (.int .i64 why)).heap[w0.heap.size + 1]? = some (.cells #[.slice none 0 0, .slice none 0 0, .int .i64 0] 82 (0, 0)) := blk_far (blk_alloc hB.2.1 _) (by simp) _
  have g7 : ((w1.alloc (.cells #[.int .i64 why] 114)).setCell ⟨w0.heap.size + 1 + 1, 0, none⟩ (.int .i64 why)).heap[w0.heap.size + 1 + 1]? = some (.cells #[.int .i64 why] 24 (0, 0)) := blk_set (blk_alloc hB.2.2 _) 0 _
  refine ⟨_, hy_results tmps _ _ _ _ _ _ _ h6 h7 g6 g7, _, _, _, _, rfl, World.ownsRow_nil _ _ _ _, ?_⟩
  exact (below_alloc hB.1 _).setCell (p := ⟨w0.heap.size + 1 + 1, 0, none⟩) (by simp; omega) _
theorem hy_done {w0 w1 : World} {lv : Value} {Ar : Option Addr} {m cr : Nat} {l : List Int} {a : Int} (tmps : Array Value) (h6 : tmps.getD 6 undef = .pointer (some ⟨w0.heap.size + 1, 0, none⟩)) (h7 : tmps.getD 7 undef = .pointer (some ⟨w0.heap.size + 1 + 1, 0, none⟩))
    (hb : Below w0.heap.size w0 w1) (g6 : w1.heap[w0.heap.size + 1]? = some (.cells #[lv, .slice Ar m cr, .int .i64 a] 82 (0, 0))) (g7 : w1.heap[w0.heap.size + 1 + 1]? = some (.cells #[.int .i64 0] 24 (0, 0)))
    (ho : w1.ownsRow w0.heap.size 3 1 lv l.length (nums .i64 l)) :
    bodyPostD Try.prog Try.f53 (HyEnd w0 0 l a) Exit.ret { tmps := tmps, defers := hyDef w0 } w1 := by
  unfold bodyPostD hyDef
  refine leaves_cons (f := 63) (args := #[.pointer (some ⟨w0.heap.size + 1 + 1, 0, none⟩)]) (by simp) (by simp [go_sem]) ?_
  refine (caught_no ⟨w0.heap.size + 1 + 1, 0, none⟩ w1).mono ?_
  rintro e u' w'' ⟨⟨v, rfl⟩, rfl, rfl⟩
  exact ⟨_, hy_results tmps _ _ _ _ _ _ _ h6 h7 g6 g7, _, _, _, _, rfl, ho, hb⟩
theorem own_form {w : World} {base n : Nat} {e : TypeId} {size : Nat} {v : Value} {xs : List Value} (h : w.ownsRow base e size v n xs) : ∃ A c, v = .slice A n c := by
  obtain ⟨_, ⟨rfl, rfl⟩ | ⟨g, cap, cur, rfl, _⟩⟩ := h
  · exact ⟨_, _, rfl⟩
  · exact ⟨_, _, rfl⟩
theorem hy_state (w : World) (vb : Value) : HyI w vb [] 0 0 ((((w.alloc (.cells #[vb] 37)).alloc (.cells #[.slice none 0 0, .slice none 0 0, .int .i64 0] 82)).alloc (.cells #[.int .i64 0] 24)).alloc (.cells #[.slice none 0 0, .slice none 0 0, .int .i64 0] 82)) := by
  have hB := (hy_start w vb).below (below_alloc (Below.refl _ _) (.cells #[.slice none 0 0, .slice none 0 0, .int .i64 0] 82))
  refine ⟨_, _, 0, [], hB, blk_alloc (blk_alloc (blk_alloc (blk_new _ _) _) _) _, ?_, World.ownsRow_nil _ _ _ _, World.ownsRow_nil _ _ _ _, Nat.le_refl _⟩
  have := blk_new (((w.alloc (.cells #[vb] 37)).alloc (.cells #[.slice none 0 0, .slice none 0 0, .int .i64 0] 82)).alloc (.cells #[.int .i64 0] 24)) (.cells #[.slice none 0 0, .slice none 0 0, .int .i64 0] 82)
  rwa [World.size_alloc, World.size_alloc, World.size_alloc] at this
set_option maxRecDepth 100000 in
set_option maxHeartbeats 4000000 in
theorem hy_all_arg (A : Option Addr) (c : Nat) (b : List Int) (W count : Int) (w : World) (h : W < 0 ∨ 32 < W ∨ count < 0) :
    Calls Try.prog 53 #[.slice A b.length c, .int .i64 W, .int .i64 count] w (HyEnd w 2 [] 0) := by
  have MN := Aside0.mk (fun why W => hy_must_no why W)
  have h : W < 0 ∨ (0 ≤ W ∧ 32 < W) ∨ (0 ≤ W ∧ W ≤ 32 ∧ count < 0) := by omega
  rcases h with h | ⟨h1, h⟩ | ⟨h1, h2, h⟩
  · have d1 := decide_eq_false (show ¬ 0 ≤ W by omega)
    clear h
    go_enter_defers Try.func53, Try.ntmps53
    go_wp2_with fail
    refine (MN.out _ _).mono ?_
    rintro e W1 ⟨rfl, rfl⟩
    exact hy_giveup _ rfl rfl (hy_start _ _)
  · have d1 := decide_eq_true h1
    have d2 := decide_eq_false (show ¬ W ≤ 32 by omega)
    clear h h1
    go_enter_defers Try.func53, Try.ntmps53
    go_wp2_with fail
    refine (MN.out _ _).mono ?_
    rintro e W1 ⟨rfl, rfl⟩
    exact hy_giveup _ rfl rfl (hy_start _ _)
  · have d1 := decide_eq_true h1
    have d2 := decide_eq_true h2
    have d3 := decide_eq_false (show ¬ 0 ≤ count by omega)
    clear h h1 h2
    go_enter_defers Try.func53, Try.ntmps53
    go_wp2_with fail
    refine (MN.out _ _).mono ?_
    rintro e W1 ⟨rfl, rfl⟩
    exact hy_giveup _ rfl rfl (hy_start _ _)
set_option maxRecDepth 100000 in
set_option maxHeartbeats 4000000 in
theorem hy_all_long (A : Option Addr) (c : Nat) (b : List Int) (W count : Int) (w : World) (h1 : 0 ≤ W) (h2 : W ≤ 32) (h3 : 0 ≤ count) (h : 1048576 < (b.length : Int) ∨ 65536 < count) :
    Calls Try.prog 53 #[.slice A b.length c, .int .i64 W, .int .i64 count] w (HyEnd w 3 [] 0) := by
  have MN := Aside0.mk (fun why W => hy_must_no why W)
  have MO := Aside0.mk (fun why W => hy_must_ok why W)
  have d1 := decide_eq_true h1
  have d2 := decide_eq_true h2
  have d3 := decide_eq_true h3
  have h : 1048576 < (b.length : Int) ∨ ((b.length : Int) ≤ 1048576 ∧ 65536 < count) := by omega
  rcases h with h | ⟨h4, h⟩
  · have d4 := decide_eq_false (show ¬ (b.length : Int) ≤ 1048576 by omega)
    clear h h1 h2 h3
    go_enter_defers Try.func53, Try.ntmps53
    go_wp2_with fail
    refine (MO.out _ _).mono ?_
    rintro e W1 ⟨⟨v, rfl⟩, rfl⟩
    go_wp2_with fail
    refine (MN.out _ _).mono ?_
    rintro e W1 ⟨rfl, rfl⟩
    exact hy_giveup _ rfl rfl (hy_start _ _)
  · have d4 := decide_eq_true h4
    have d5 := decide_eq_false (show ¬ count ≤ 65536 by omega)
    clear h h1 h2 h3 h4
    go_enter_defers Try.func53, Try.ntmps53
    go_wp2_with fail
    refine (MO.out _ _).mono ?_
    rintro e W1 ⟨⟨v, rfl⟩, rfl⟩
    go_wp2_with fail
    refine (MN.out _ _).mono ?_
    rintro e W1 ⟨rfl, rfl⟩
    exact hy_giveup _ rfl rfl (hy_start _ _)
set_option maxRecDepth 100000 in
set_option maxHeartbeats 8000000 in
theorem hy_all_main (k : Nat) (A : Option Addr) (c : Nat) (b : List Int) (W count : Int) (r : Int) (l' : List Int) (a' : Int) (w : World) (hC : Kd.C (Kd.int .u8) w A b.length b) (hc : b.length ≤ c) (h1 : 0 ≤ W) (h2 : W ≤ 32) (h3 : 0 ≤ count) (h4 : b.length ≤ 1048576) (h5 : count ≤ 65536)
    (h : hyAll k b W count [] 0 = some (r, l', a')) :
    Calls Try.prog 53 #[.slice A b.length c, .int .i64 W, .int .i64 count] w (HyEnd w r l' a') := by
  have MO := Aside0.mk (fun why W => hy_must_ok why W)
  have d1 := decide_eq_true h1
  have d2 := decide_eq_true h2
  have d3 := decide_eq_true h3
  have d4 := decide_eq_true (show (b.length : Int) ≤ 1048576 by omega)
  have d5 := decide_eq_true h5
  have HC := Aside0.mk hC
  have HA := Aside0.mk h
  have hmf : ∀ (fn : Fn) (first cap : Array Value) (w : World), (Instr.makeFunc fn first cap).run Try.prog w = .ok (.func fn first cap) w := fun _ _ _ _ => rfl
  clear hC h
  go_enter_defers Try.func53, Try.ntmps53
  go_wp2_with fail
  refine (MO.out _ _).mono ?_
  rintro e W1 ⟨⟨v, rfl⟩, hW1⟩
  have HS := Aside0.mk (hy_state w (.slice A b.length c))
  rw [← hW1] at HS
  have q0 : W1.cell? ⟨w.heap.size, 0, none⟩ = some (.slice A b.length c) := by rw [hW1]; exact blk_cell (blk_alloc (blk_alloc (blk_new _ _) _) _) 0
  have hsz : W1.heap.size = w.heap.size + 3 := by rw [hW1, World.size_alloc, World.size_alloc, World.size_alloc]
  clear hW1
  have hsz := Aside0.mk hsz
  go_wp2_with fail
  refine (MO.out _ _).mono ?_
  rintro e W2 ⟨⟨v2, rfl⟩, rfl⟩
  go_wp2_with fail
  clear q0 d1 d2 d3 d4 d5 hsz
  go_loopg [10] k (fun kq v10 w' => ∃ (l1 : List Int) (a1 : Int) (M : Nat), Aside0 (hyAll kq b W count l1 a1 = some (r, l', a')) ∧ Aside0 (kq ≤ k) ∧ Aside0 (HyI w (.slice A b.length c) l1 a1 M w') ∧ Aside0 (M ≤ l1.length) ∧ (l1.length : Int) ≤ count ∧ 0 ≤ a1 ∧ a1 ≤ b.length)
  case atStart => exact ⟨[], 0, 0, HA, ⟨Nat.le_refl _⟩, HS, ⟨Nat.le_refl _⟩, h3, by omega, by omega⟩
  case round =>
    clear HA HS
    obtain ⟨l1, a1, M, HA, HK, HI, HM, hlc, ha0, ha1⟩ := hrel
    cases gk with
    | zero => exact absurd HA.out (by simp [hyAll])
    | succ k1 =>
      have hA := HA.out
      rw [hyAll] at hA
      clear HA
      obtain ⟨lv, rv, m, rs, hB, g2, g3, g4, g5, g6⟩ := HI.out
      obtain ⟨Al, cl, rfl⟩ := own_form g4
      have q0 : wr.cell? ⟨w.heap.size + 3, 0, none⟩ = some (.slice Al l1.length cl) := blk_cell g3 0
      have q3 : wr.cell? ⟨w.heap.size, 0, none⟩ = some (.slice A b.length c) := blk_cell g2 0
      by_cases hlt : (l1.length : Int) < count
      · have hltb := decide_eq_true hlt
        rw [if_pos hlt] at hA
        obtain ⟨⟨h, nx, er⟩, hx, hA⟩ := Option.bind_eq_some_iff.1 hA
        have HH := Aside0.mk (hy_head k1 w A c b a1 l1 M h nx er wr HC.out hc HI.out hx)
        have HA := Aside0.mk hA
        clear hx hA hB g2 g3 g4 g5 g6 HI
        go_wp2_with fail
        refine HH.out.mono ?_
        rintro e W3 (⟨rfl, hh0, hh1, rfl, hI⟩ | ⟨rfl, hh, rfl, hB⟩ | ⟨hne, rfl, hB⟩)
        · have HI := Aside0.mk hI
          have hA := HA.out
          rw [if_pos rfl, if_pos ⟨hh0, hh1⟩] at hA
          clear hI HH q0 q3 HA
          by_cases hnx : 0 ≤ nx ∧ nx ≤ (b.length : Int)
          · rw [if_pos hnx] at hA
            obtain ⟨hn0, hn1⟩ := hnx
            obtain ⟨⟨pr, pl, pa⟩, hp, hA⟩ := Option.bind_eq_some_iff.1 hA
            have HA := Aside0.mk hA
            clear hA
            have HM2 := Aside0.mk (show M ≤ 200000000 by have := HM.out; omega)
            by_cases he : h % 2 = 0
            · have heb : (h % 2 == 0) = true := by simp [he]
              rw [if_pos he] at hp
              have HP := Aside0.mk (hy_repeated k1 w A c b W (h / 2) (count - l1.length) nx l1 pr pl pa W3 HC.out hc M HI.out HM2.out h1 h2 (by omega) (by omega) (by omega) (by omega) hn0 hn1 h4 (by omega) hp)
              obtain ⟨lv, rv, m, rs, hB, g2, g3, g4, g5, g6⟩ := HI.out
              obtain ⟨Al, cl, rfl⟩ := own_form g4
              have q0 : W3.cell? ⟨w.heap.size + 3, 0, none⟩ = some (.slice Al l1.length cl) := blk_cell g3 0
              have q3 : W3.cell? ⟨w.heap.size, 0, none⟩ = some (.slice A b.length c) := blk_cell g2 0
              clear he hp HI hB g2 g3 g4 g5 g6
              go_wp2_with fail
              refine HP.out.mono ?_
              rintro e W4 (⟨rfl, ⟨v4, rfl⟩, hI⟩ | ⟨hne, rfl, hB⟩)
              · have hA := HA.out
                rw [if_pos rfl] at hA
                by_cases hq : l1.length < pl.length ∧ (pl.length : Int) ≤ count ∧ 0 ≤ pa ∧ pa ≤ (b.length : Int)
                · rw [if_pos hq] at hA
                  obtain ⟨hq1, hq2, hq3, hq4⟩ := hq
                  have HA9 := Aside0.mk hA
                  have HI := Aside0.mk hI
                  clear hA hI q0 q3 HP
                  go_wp2
                  go_roundg k1
                  case measure => have := HK.out; omega
                  case rel => exact ⟨pl, pa, M + 1, HA9, ⟨by have := HK.out; omega⟩, HI, ⟨by have := HM.out; omega⟩, hq2, hq3, hq4⟩
                · rw [if_neg hq] at hA
                  exact absurd hA (by simp)
              · have hA := HA.out
                rw [if_neg hne] at hA
                obtain ⟨rfl, rfl, rfl⟩ : pr = r ∧ [] = l' ∧ 0 = a' := by simpa using hA
                exact hy_giveup _ rfl rfl hB
            · have heb : (h % 2 == 0) = false := by simp [he]
              rw [if_neg he] at hp
              have HP := Aside0.mk (hy_packed k1 w A c b W (h / 2) (count - l1.length) nx l1 pr pl pa W3 HC.out hc M HI.out HM2.out h1 h2 (by omega) (by omega) (by omega) (by omega) hn0 hn1 h4 (by omega) hp)
              obtain ⟨lv, rv, m, rs, hB, g2, g3, g4, g5, g6⟩ := HI.out
              obtain ⟨Al, cl, rfl⟩ := own_form g4
              have q0 : W3.cell? ⟨w.heap.size + 3, 0, none⟩ = some (.slice Al l1.length cl) := blk_cell g3 0
              have q3 : W3.cell? ⟨w.heap.size, 0, none⟩ = some (.slice A b.length c) := blk_cell g2 0
              clear he hp HI hB g2 g3 g4 g5 g6
              go_wp2_with fail
              refine HP.out.mono ?_
              rintro e W4 (⟨rfl, ⟨v4, rfl⟩, hI⟩ | ⟨hne, rfl, hB⟩)
              · have hA := HA.out
                rw [if_pos rfl] at hA
                by_cases hq : l1.length < pl.length ∧ (pl.length : Int) ≤ count ∧ 0 ≤ pa ∧ pa ≤ (b.length : Int)
                · rw [if_pos hq] at hA
                  obtain ⟨hq1, hq2, hq3, hq4⟩ := hq
                  have HA9 := Aside0.mk hA
                  have HI := Aside0.mk hI
                  clear hA hI q0 q3 HP
                  go_wp2
                  go_roundg k1
                  case measure => have := HK.out; omega
                  case rel => exact ⟨pl, pa, M + 1, HA9, ⟨by have := HK.out; omega⟩, HI, ⟨by have := HM.out; omega⟩, hq2, hq3, hq4⟩
                · rw [if_neg hq] at hA
                  exact absurd hA (by simp)
              · have hA := HA.out
                rw [if_neg hne] at hA
                obtain ⟨rfl, rfl, rfl⟩ : pr = r ∧ [] = l' ∧ 0 = a' := by simpa using hA
                exact hy_giveup _ rfl rfl hB
          · rw [if_neg hnx] at hA
            exact absurd hA (by simp)
        · have hA := HA.out
          rw [if_pos rfl, if_neg hh] at hA
          obtain ⟨rfl, rfl, rfl⟩ : 8 = r ∧ [] = l' ∧ 0 = a' := by simpa using hA
          exact hy_giveup _ rfl rfl hB
        · have hA := HA.out
          rw [if_neg hne] at hA
          obtain ⟨rfl, rfl, rfl⟩ : er = r ∧ [] = l' ∧ 0 = a' := by simpa using hA
          exact hy_giveup _ rfl rfl hB
      · have hltb := decide_eq_false hlt
        rw [if_neg hlt] at hA
        obtain ⟨rfl, rfl, rfl⟩ : 0 = r ∧ l1 = l' ∧ a1 = a' := by simpa using hA
        obtain ⟨Ar, cr, rfl⟩ := own_form g5
        have HB := Aside0.mk hB
        have G3 := Aside0.mk g3
        have G4 := Aside0.mk g4
        have G6 := Aside0.mk (show (wr.setRow (w.heap.size + 1) #[.slice Al l1.length cl, (.slice Ar m cr), .int .i64 a1]).heap[w.heap.size + 1]? = some (.cells #[.slice Al l1.length cl, (.slice Ar m cr), .int .i64 a1] 82 (0, 0)) from setRow_heap _ _ _ _ _ _ hB.2.1)
        have G7 := Aside0.mk (show (wr.setRow (w.heap.size + 1) #[.slice Al l1.length cl, (.slice Ar m cr), .int .i64 a1]).heap[w.heap.size + 1 + 1]? = some (.cells #[.int .i64 0] 24 (0, 0)) by rw [setRow_other _ _ _ _ (by omega)]; exact hB.2.2)
        have hone : (#[.slice Al l1.length cl, (.slice Ar m cr), .int .i64 a1] : Array Value).all (·.oneCell') = true := by simp [Value.oneCell']
        have q7 : (wr.setRow (w.heap.size + 1) #[.slice Al l1.length cl, (.slice Ar m cr), .int .i64 a1]).cell? ⟨w.heap.size + 1 + 1, 0, none⟩ = some (.int .i64 0) := blk_cell G7.out 0
        have f7 : (wr.setRow (w.heap.size + 1) #[.slice Al l1.length cl, (.slice Ar m cr), .int .i64 a1]).frozen? ⟨w.heap.size + 1 + 1, 0, none⟩ = false := blk_frozen G7.out 0
        have HON := Aside0.mk hone
        clear hA hB g2 g3 g4 g5 g6 q3 hone HI
        go_wp2_with (first | (refine wpList_load_row rfl _ _ rfl (w.heap.size + 3) rfl 82 #[.slice Al l1.length cl, (.slice Ar m cr), .int .i64 a1] (0, 0) _ G3.out Try.underlying82 rfl (by kernel_rfl) ?_) | (refine wpList_store_row rfl 82 (.tmp 6) (.tmp 61) rfl (w.heap.size + 1) #[.slice Al l1.length cl, (.slice Ar m cr), .int .i64 a1] rfl rfl 82 #[.slice none 0 0, .slice none 0 0, .int .i64 0] HB.out.2.1 (by kernel_rfl) rfl HON.out ?_))
        have hg : wr.grownBy (wr.setRow (w.heap.size + 1) #[.slice Al l1.length cl, (.slice Ar m cr), .int .i64 a1]) (some (w.heap.size + 1)) := ⟨rfl, rfl, rfl, by simp, fun k hk hne => setRow_other _ _ _ _ (fun e => hne (by rw [e]))⟩
        have ho1 := own_other G4.out hg (.inr (fun e => own_ne G4.out HB.out.2.1 (by decide) e.symm))
        exact hy_done _ rfl rfl ((below_setRow HB.out.1 (by omega) _).setCell (p := ⟨w.heap.size + 1 + 1, 0, none⟩) (by simp; omega) _) (blk_far G6.out (by simp) _) (blk_set G7.out 0 _) (own_setCell ho1 (own_ne ho1 G7.out (by decide)) _)
theorem hy_all (k : Nat) (A : Option Addr) (c : Nat) (b : List Int) (W count : Int) (r : Int) (l' : List Int) (a' : Int) (w : World) (hC : Kd.C (Kd.int .u8) w A b.length b) (hc : b.length ≤ c) (h : hyF k b W count = some (r, l', a')) :
    Calls Try.prog 53 #[.slice A b.length c, .int .i64 W, .int .i64 count] w (HyEnd w r l' a') := by
  unfold hyF at h
  by_cases c1 : W < 0
  · rw [if_pos c1] at h
    obtain ⟨rfl, rfl, rfl⟩ : 2 = r ∧ [] = l' ∧ 0 = a' := by simpa using h
    exact hy_all_arg A c b W count w (.inl c1)
  rw [if_neg c1] at h
  by_cases c2 : 32 < W
  · rw [if_pos c2] at h
    obtain ⟨rfl, rfl, rfl⟩ : 2 = r ∧ [] = l' ∧ 0 = a' := by simpa using h
    exact hy_all_arg A c b W count w (.inr (.inl c2))
  rw [if_neg c2] at h
  by_cases c3 : count < 0
  · rw [if_pos c3] at h
    obtain ⟨rfl, rfl, rfl⟩ : 2 = r ∧ [] = l' ∧ 0 = a' := by simpa using h
    exact hy_all_arg A c b W count w (.inr (.inr c3))
  rw [if_neg c3] at h
  by_cases c4 : 1048576 < (b.length : Int)
  · rw [if_pos c4] at h
    obtain ⟨rfl, rfl, rfl⟩ : 3 = r ∧ [] = l' ∧ 0 = a' := by simpa using h
    exact hy_all_long A c b W count w (by omega) (by omega) (by omega) (.inl c4)
  rw [if_neg c4] at h
  by_cases c5 : 65536 < count
  · rw [if_pos c5] at h
    obtain ⟨rfl, rfl, rfl⟩ : 3 = r ∧ [] = l' ∧ 0 = a' := by simpa using h
    exact hy_all_long A c b W count w (by omega) (by omega) (by omega) (.inr c5)
  rw [if_neg c5] at h
  exact hy_all_main k A c b W count r l' a' w hC hc (by omega) (by omega) (by omega) (by omega) (by omega) h
end Go.Proofs.Ytpibhiacmceekaa.X

namespace Go.Proofs.Ytpibhiacmceekaa.X
open Go.RowKit Go.Proofs.YtpibhiacmceekaaW.PrintWords Go.Proofs.YtpibhiacmceekaaW.PrintLast Go.Proofs.YtpibhiacmceekaaW.PrintMore
set_option linter.unusedVariables false
set_option linter.unusedSimpArgs false

theorem own_lower {w : World} {base base' n : Nat} {e : TypeId} {size : Nat} {v : Value} {xs : List Value} (h : w.ownsRow base e size v n xs) (hb : base' ≤ base) : w.ownsRow base' e size v n xs := by
  obtain ⟨h1, h2⟩ := h
  refine ⟨h1, ?_⟩
  rcases h2 with h2 | ⟨g, cap, cur, rfl, hg, r⟩
  · exact .inl h2
  · exact .inr ⟨g, cap, cur, rfl, Nat.le_trans hb hg, r⟩
theorem own_R {w : World} {base : Nat} {v : Value} {l : List Int} (h : w.ownsRow base 3 1 v l.length (nums .i64 l)) : Kd.R (Kd.int .i64) 3 w base (fun _ => True) v l :=
  Kd.R_of_own (enc := Value.int .i64) (h1 := fun _ => rfl) h (fun _ _ => trivial)
set_option maxRecDepth 100000 in
set_option maxHeartbeats 2000000 in
theorem hy_part (k : Nat) (A : Option Addr) (c : Nat) (b : List Int) (W count : Int) (r : Int) (l' : List Int) (a' : Int) (w : World) (hC : Kd.C (Kd.int .u8) w A b.length b) (hc : b.length ≤ c) (h : hyF k b W count = some (r, l', a')) :
    Calls Try.prog 32 #[.slice A b.length c, .int .i64 W, .int .i64 count] w fun e w' => ∃ v0_ : Value, e = .returned (.tuple #[v0_, .int .i64 a', .int .i64 r]) ∧ Kd.R (Kd.int .i64) 3 w' w.heap.size (fun _ => True) v0_ l' ∧ Below w.heap.size w w' := by
  have HA := Aside0.mk (hy_all k A c b W count r l' a' w hC hc h)
  clear hC h
  go_enter Try.func32, Try.ntmps32
  go_wp2_with fail
  refine HA.out.mono ?_
  rintro e W1 ⟨lv, Ar, m, cr, rfl, ho, hb⟩
  obtain ⟨Al, cl, rfl⟩ := own_form ho
  have HO := Aside0.mk ho
  have HB := Aside0.mk hb
  clear ho hb HA
  go_wp2
  go_quiet (fail)
  go_wp2
  go_ret3
  exact ⟨_, rfl, by (with_reducible repeat (first | apply Kd.R_alloc | apply Kd.R_drewN | apply Kd.R_drew)); exact own_R HO.out, by repeat (first | (with_reducible first | exact HB.out | apply below_alloc | apply pw_below_drewN | apply below_drew1) | exact HB.out)⟩
set_option maxRecDepth 100000 in
set_option maxHeartbeats 2000000 in
theorem hy_whole (k : Nat) (A : Option Addr) (c : Nat) (b : List Int) (W count : Int) (r : Int) (l' : List Int) (a' : Int) (w : World) (hC : Kd.C (Kd.int .u8) w A b.length b) (hc : b.length ≤ c) (h : hyF k b W count = some (r, l', a')) :
    Calls Try.prog 52 #[.slice A b.length c, .int .i64 W, .int .i64 count] w (HyEnd w (if r = 0 then (if a' < (b.length : Int) then 7 else 0) else r) (if r = 0 then (if a' < (b.length : Int) then [] else l') else []) (if r = 0 then (if a' < (b.length : Int) then 0 else a') else 0)) := by
  have HA : ∀ W', Below w.heap.size w W' → Calls Try.prog 53 #[.slice A b.length c, .int .i64 W, .int .i64 count] W' (HyEnd W' r l' a') := fun W' hB => hy_all k A c b W count r l' a' W' (Kd.C_below hC hB) hc h
  have HZ := Aside0.mk (blk_new w (.cells #[.slice none 0 0, .slice none 0 0, .int .i64 0] 82))
  have HA := Aside0.mk HA
  clear hC h
  by_cases c1 : r = 0
  · subst c1
    rw [if_pos rfl, if_pos rfl, if_pos rfl]
    by_cases c2 : a' < (b.length : Int)
    · have d2 := decide_eq_true c2
      rw [if_pos c2, if_pos c2, if_pos c2]
      clear c2
      go_enter Try.func52, Try.ntmps52
      go_wp2_with fail
      refine (HA.out _ (below_alloc (Below.refl _ _) _)).mono ?_
      rintro e W1 ⟨lv, Ar, m, cr, rfl, ho, hb⟩
      obtain ⟨Al, cl, rfl⟩ := own_form ho
      have HG := Aside0.mk (show (W1.alloc (.cells #[.slice Al l'.length cl, .slice Ar m cr, .int .i64 a'] 82)).heap[w.heap.size]? = some (.cells #[.slice none 0 0, .slice none 0 0, .int .i64 0] 82 (0, 0)) from blk_alloc (blk_below HZ.out hb) _)
      have HR := Aside0.mk (show (W1.alloc (.cells #[.slice Al l'.length cl, .slice Ar m cr, .int .i64 a'] 82)).heap[W1.heap.size]? = some (.cells #[.slice Al l'.length cl, .slice Ar m cr, .int .i64 a'] 82 (0, 0)) from blk_new _ _)
      have HO := Aside0.mk (own_lower ho (show w.heap.size ≤ (w.alloc (.cells #[.slice none 0 0, .slice none 0 0, .int .i64 0] 82)).heap.size by simp))
      have HB := Aside0.mk ((below_alloc (Below.refl w.heap.size w) (.cells #[.slice none 0 0, .slice none 0 0, .int .i64 0] 82)).trans (hb.mono (by simp)))
      clear ho hb HA
      go_wp2_with (first | (refine wpList_store_row rfl 82 (.tmp 6) (.tmp 28) rfl w.heap.size #[.slice none 0 0, .slice none 0 0, .int .i64 0] rfl rfl 82 #[.slice none 0 0, .slice none 0 0, .int .i64 0] HG.out (by kernel_rfl) rfl (by simp [Value.oneCell']) ?_))
      refine bodyPost_ret (results_ct rfl _ _ w.heap.size 82 #[.slice none 0 0, .slice none 0 0, .int .i64 0] (0, 0) _ rfl (setRow_heap _ _ _ _ _ _ HG.out) Try.underlying82 rfl (by kernel_rfl)) rfl ?_
      exact ⟨_, _, _, _, rfl, World.ownsRow_nil _ _ _ _, below_setRow (below_alloc HB.out _) (Nat.le_refl _) _⟩
    · have d2 := decide_eq_false c2
      rw [if_neg c2, if_neg c2, if_neg c2]
      clear c2
      go_enter Try.func52, Try.ntmps52
      go_wp2_with fail
      refine (HA.out _ (below_alloc (Below.refl _ _) _)).mono ?_
      rintro e W1 ⟨lv, Ar, m, cr, rfl, ho, hb⟩
      obtain ⟨Al, cl, rfl⟩ := own_form ho
      have HG := Aside0.mk (show (W1.alloc (.cells #[.slice Al l'.length cl, .slice Ar m cr, .int .i64 a'] 82)).heap[w.heap.size]? = some (.cells #[.slice none 0 0, .slice none 0 0, .int .i64 0] 82 (0, 0)) from blk_alloc (blk_below HZ.out hb) _)
      have HR := Aside0.mk (show (W1.alloc (.cells #[.slice Al l'.length cl, .slice Ar m cr, .int .i64 a'] 82)).heap[W1.heap.size]? = some (.cells #[.slice Al l'.length cl, .slice Ar m cr, .int .i64 a'] 82 (0, 0)) from blk_new _ _)
      have HO := Aside0.mk (own_lower ho (show w.heap.size ≤ (w.alloc (.cells #[.slice none 0 0, .slice none 0 0, .int .i64 0] 82)).heap.size by simp))
      have HB := Aside0.mk ((below_alloc (Below.refl w.heap.size w) (.cells #[.slice none 0 0, .slice none 0 0, .int .i64 0] 82)).trans (hb.mono (by simp)))
      clear ho hb HA
      go_wp2_with (first | (refine wpList_load_row rfl _ _ rfl W1.heap.size rfl 82 #[.slice Al l'.length cl, .slice Ar m cr, .int .i64 a'] (0, 0) _ HR.out Try.underlying82 rfl (by kernel_rfl) ?_) | (refine wpList_store_row rfl 82 (.tmp 6) (.tmp 29) rfl w.heap.size #[.slice Al l'.length cl, .slice Ar m cr, .int .i64 a'] rfl rfl 82 #[.slice none 0 0, .slice none 0 0, .int .i64 0] HG.out (by kernel_rfl) rfl (by simp [Value.oneCell']) ?_))
      have hg : (W1.alloc (.cells #[.slice Al l'.length cl, .slice Ar m cr, .int .i64 a'] 82)).grownBy ((W1.alloc (.cells #[.slice Al l'.length cl, .slice Ar m cr, .int .i64 a'] 82)).setRow w.heap.size #[.slice Al l'.length cl, .slice Ar m cr, .int .i64 a']) (some w.heap.size) := ⟨rfl, rfl, rfl, by simp, fun k hk hne => setRow_other _ _ _ _ (fun e => hne (by rw [e]))⟩
      refine bodyPost_ret (results_ct rfl _ _ w.heap.size 82 #[.slice Al l'.length cl, .slice Ar m cr, .int .i64 a'] (0, 0) _ rfl (setRow_heap _ _ _ _ _ _ HG.out) Try.underlying82 rfl (by kernel_rfl)) rfl ?_
      exact ⟨_, _, _, _, rfl, own_other (HO.out.alloc _) hg (.inr (fun e => own_ne (HO.out.alloc _) HG.out (by decide) e.symm)), below_setRow (below_alloc HB.out _) (Nat.le_refl _) _⟩
  · have d1 : (r != 0) = true := by simp [c1]
    rw [if_neg c1, if_neg c1, if_neg c1]
    clear c1
    · go_enter Try.func52, Try.ntmps52
      go_wp2_with fail
      refine (HA.out _ (below_alloc (Below.refl _ _) _)).mono ?_
      rintro e W1 ⟨lv, Ar, m, cr, rfl, ho, hb⟩
      obtain ⟨Al, cl, rfl⟩ := own_form ho
      have HG := Aside0.mk (show (W1.alloc (.cells #[.slice Al l'.length cl, .slice Ar m cr, .int .i64 a'] 82)).heap[w.heap.size]? = some (.cells #[.slice none 0 0, .slice none 0 0, .int .i64 0] 82 (0, 0)) from blk_alloc (blk_below HZ.out hb) _)
      have HR := Aside0.mk (show (W1.alloc (.cells #[.slice Al l'.length cl, .slice Ar m cr, .int .i64 a'] 82)).heap[W1.heap.size]? = some (.cells #[.slice Al l'.length cl, .slice Ar m cr, .int .i64 a'] 82 (0, 0)) from blk_new _ _)
      have HO := Aside0.mk (own_lower ho (show w.heap.size ≤ (w.alloc (.cells #[.slice none 0 0, .slice none 0 0, .int .i64 0] 82)).heap.size by simp))
      have HB := Aside0.mk ((below_alloc (Below.refl w.heap.size w) (.cells #[.slice none 0 0, .slice none 0 0, .int .i64 0] 82)).trans (hb.mono (by simp)))
      clear ho hb HA
      go_wp2_with (first | (refine wpList_store_row rfl 82 (.tmp 6) (.tmp 20) rfl w.heap.size #[.slice none 0 0, .slice none 0 0, .int .i64 0] rfl rfl 82 #[.slice none 0 0, .slice none 0 0, .int .i64 0] HG.out (by kernel_rfl) rfl (by simp [Value.oneCell']) ?_))
      refine bodyPost_ret (results_ct rfl _ _ w.heap.size 82 #[.slice none 0 0, .slice none 0 0, .int .i64 0] (0, 0) _ rfl (setRow_heap _ _ _ _ _ _ HG.out) Try.underlying82 rfl (by kernel_rfl)) rfl ?_
      exact ⟨_, _, _, _, rfl, World.ownsRow_nil _ _ _ _, below_setRow (below_alloc HB.out _) (Nat.le_refl _) _⟩
set_option maxRecDepth 100000 in
set_option maxHeartbeats 2000000 in
theorem hy_read (k : Nat) (A : Option Addr) (c : Nat) (b : List Int) (W count : Int) (r : Int) (l' : List Int) (a' : Int) (w : World) (hC : Kd.C (Kd.int .u8) w A b.length b) (hc : b.length ≤ c) (h : hyF k b W count = some (r, l', a')) :
    Calls Try.prog 31 #[.slice A b.length c, .int .i64 W, .int .i64 count] w fun e w' => ∃ v0_ : Value, e = .returned (.tuple #[v0_, .int .i64 (if r = 0 then (if a' < (b.length : Int) then 7 else 0) else r)]) ∧ Kd.R (Kd.int .i64) 3 w' w.heap.size (fun _ => True) v0_ (if r = 0 then (if a' < (b.length : Int) then [] else l') else []) ∧ Below w.heap.size w w' := by
  have HA := hy_whole k A c b W count r l' a' w hC hc h
  obtain ⟨r2, hr2⟩ : ∃ x, x = (if r = 0 then (if a' < (b.length : Int) then 7 else 0) else r) := ⟨_, rfl⟩
  obtain ⟨l2, hl2⟩ : ∃ x, x = (if r = 0 then (if a' < (b.length : Int) then [] else l') else []) := ⟨_, rfl⟩
  obtain ⟨a2, ha2⟩ : ∃ x, x = (if r = 0 then (if a' < (b.length : Int) then 0 else a') else 0) := ⟨_, rfl⟩
  rw [← hr2, ← hl2, ← ha2] at HA
  rw [← hr2, ← hl2]
  have HA := Aside0.mk HA
  clear hC h hr2 hl2 ha2
  go_enter Try.func31, Try.ntmps31
  go_wp2_with fail
  refine HA.out.mono ?_
  rintro e W1 ⟨lv, Ar, m, cr, rfl, ho, hb⟩
  obtain ⟨Al, cl, rfl⟩ := own_form ho
  have HO := Aside0.mk ho
  have HB := Aside0.mk hb
  clear ho hb HA
  go_wp2
  go_ret2
  exact ⟨_, rfl, by (with_reducible repeat (first | apply Kd.R_alloc | apply Kd.R_drewN | apply Kd.R_drew)); exact own_R HO.out, by repeat (first | (with_reducible first | exact HB.out | apply below_alloc | apply pw_below_drewN | apply below_drew1) | exact HB.out)⟩
theorem hyAll_mono : ∀ k b W count l a, LeO (hyAll k b W count l a) (hyAll (k + 1) b W count l a)
  | 0, _, _, _, _, _ => LeO.none _
  | k + 1, b, W, count, l, a => by
    rw [hyAll, hyAll]
    refine LeO.ite (LeO.bind (bits_ReadVarint.mono _ _ _) (fun v => LeO.ite (LeO.ite (LeO.ite (LeO.bind (LeO.ite ?_ ?_) (fun p => LeO.ite (LeO.ite (hyAll_mono k _ _ _ _ _) (LeO.refl _)) (LeO.refl _))) (LeO.refl _)) (LeO.refl _)) (LeO.refl _))) (LeO.refl _)
    · unfold hyRep
      exact LeO.ite (LeO.ite (LeO.bind (bits_ReadLittle.mono _ _ _ _) (fun _ => LeO.bind (bits_Width.mono _ _) (fun _ => LeO.refl _))) (LeO.refl _)) (LeO.refl _)
    · unfold hyPack
      exact LeO.ite (LeO.ite (LeO.bind (bits_Unpack.mono _ _ _ _) (fun _ => LeO.refl _)) (LeO.refl _)) (LeO.refl _)
theorem hyF_mono (k : Nat) (b : List Int) (W count : Int) : LeO (hyF k b W count) (hyF (k + 1) b W count) := by
  unfold hyF
  exact LeO.ite (LeO.refl _) (LeO.ite (LeO.refl _) (LeO.ite (LeO.refl _) (LeO.ite (LeO.refl _) (LeO.ite (LeO.refl _) (hyAll_mono _ _ _ _ _ _)))))
end Go.Proofs.Ytpibhiacmceekaa.X

namespace Go.Proofs.Ytpibhiacmceekaa.X
open Go.RowKit Go.Proofs.YtpibhiacmceekaaW.PrintWords Go.Proofs.YtpibhiacmceekaaW.PrintLast Go.Proofs.YtpibhiacmceekaaW.PrintMore
attribute [local go_sem] max2_int min2_int max_two min_two max_three min_three max_four min_four   -- for this text's walks alone
set_option linter.unusedVariables false
set_option linter.unusedSimpArgs false

/-! ### hybrid_Read: function 31 (by hand): panics, recover, a closure -/
def hybrid_Read.f (k : Nat) (l0 : List Int) (a1 a2 : Int) : Option (List Int × Int) := (hyF k l0 a1 a2).bind fun p => some (if p.1 = 0 then (if p.2.2 < (l0.length : Int) then [] else p.2.1) else [], if p.1 = 0 then (if p.2.2 < (l0.length : Int) then 7 else 0) else p.1)
theorem hybrid_Read.mono : ∀ l0 a1 a2 k, LeO (hybrid_Read.f k l0 a1 a2) (hybrid_Read.f (k + 1) l0 a1 a2) := by
 intro l0 a1 a2 k
 unfold hybrid_Read.f
 exact LeO.bind (hyF_mono _ _ _ _) (fun _ => LeO.refl _)
theorem hybrid_Read.calls (k : Nat) (A0 : Option Addr) (c0 : Nat) (l0 : List Int) (a1 : Int) (a2 : Int) (r1 : List Int) (r2 : Int) (w : World) (hr0 : Kd.C (Kd.int .u8) w A0 l0.length l0) (hc0 : l0.length ≤ c0) (h : hybrid_Read.f k l0 a1 a2 = some (r1, r2)) :
  Calls Try.prog 31 #[.slice A0 l0.length c0, .int .i64 a1, .int .i64 a2] w fun e w' => ∃ v0_ : Value, e = .returned (.tuple #[v0_, .int .i64 r2]) ∧ Kd.R (Kd.int .i64) 3 w' w.heap.size (fun _ => True) v0_ r1 ∧ Below w.heap.size w w' := by
 unfold hybrid_Read.f at h
 obtain ⟨⟨r, l, a⟩, hp, h⟩ := Option.bind_eq_some_iff.1 h
 obtain ⟨rfl, rfl⟩ : (if r = 0 then (if a < (l0.length : Int) then [] else l) else []) = r1 ∧ (if r = 0 then (if a < (l0.length : Int) then 7 else 0) else r) = r2 := by simpa using h
 exact hy_read k A0 c0 l0 a1 a2 r l a w hr0 hc0 hp

end Go.Proofs.Ytpibhiacmceekaa.X

namespace Go.Proofs.Ytpibhiacmceekaa.X
open Go.RowKit Go.Proofs.YtpibhiacmceekaaW.PrintWords Go.Proofs.YtpibhiacmceekaaW.PrintLast Go.Proofs.YtpibhiacmceekaaW.PrintMore
attribute [local go_sem] max2_int min2_int max_two min_two max_three min_three max_four min_four   -- for this text's walks alone
set_option linter.unusedVariables false
set_option linter.unusedSimpArgs false

/-! ### levels_Read: function 27 (by hand): a table -/
def levels_Read.f (k : Nat) (l0 : List Int) (a1 a2 : Int) : Option (List Int × Int) :=
 if a1 < 0 then some ([], 2) else if 255 < a1 then some ([], 2) else if a2 < 0 then some ([], 2) else if 65536 < a2 then some ([], 3) else if 1048576 < (l0.length : Int) then some ([], 3) else
  if a1 = 0 then (if 0 < (l0.length : Int) then some ([], 7) else some (List.replicate a2.toNat 0, 0)) else
   (hybrid_Read.f k l0 ((Nx.wd a1.toNat : Nat) : Int) a2).bind fun p => if p.2 = 0 then (if p.1.any (fun x => decide (a1 < x)) = true then some ([], 4) else some (p.1, 0)) else some ([], p.2)
theorem levels_Read.mono : ∀ l0 a1 a2 k, LeO (levels_Read.f k l0 a1 a2) (levels_Read.f (k + 1) l0 a1 a2) := by
 intro l0 a1 a2 k
 unfold levels_Read.f
 exact LeO.ite (LeO.refl _) (LeO.ite (LeO.refl _) (LeO.ite (LeO.refl _) (LeO.ite (LeO.refl _) (LeO.ite (LeO.refl _) (LeO.ite (LeO.refl _) (LeO.bind (hybrid_Read.mono _ _ _ _) (fun _ => LeO.refl _)))))))
theorem lr_right (m : Int) (b : Bool) (hb : (decide (0 ≤ m) && decide (m ≤ 255)) = b) (w : World) : Calls Try.prog 46 #[.int .i64 m] w fun e w' => e = .returned (.bool b) ∧ w' = w := by
 have h := lw_right m w
 rw [show lwOk m = b from hb] at h
 exact h
theorem lr_not {a1 : Int} (h : a1 < 0 ∨ 255 < a1) : (decide (0 ≤ a1) && decide (a1 ≤ 255)) = false := by
 rcases h with h | h
 ·rw [decide_eq_false (show ¬ 0 ≤ a1 by omega)]; rfl
 ·rw [decide_eq_false (show ¬ a1 ≤ 255 by omega), Bool.and_false]
def LrEnd (w : World) (r1 : List Int) (r2 : Int) (e : Ending) (w' : World) : Prop := ∃ v0_ : Value, e = .returned (.tuple #[v0_, .int .i64 r2]) ∧ Kd.R (Kd.int .i64) 3 w' w.heap.size (fun _ => True) v0_ r1 ∧ Below w.heap.size w w'
theorem lr_end_nil {w w' : World} {r2 : Int} (h : Below w.heap.size w w') : LrEnd w [] r2 (.returned (.tuple #[.slice none 0 0, .int .i64 r2])) w' := ⟨_, rfl, Kd.R_nil _ _ _ _ _, h⟩
theorem lr_drop {l : List Int} {i : Nat} (h : i < l.length) : l.drop i = l.getD i 0 :: l.drop (i + 1) := by
 rw [List.drop_eq_getElem_cons h, List.getD_eq_getElem?_getD, List.getElem?_eq_getElem h]; rfl
set_option maxHeartbeats 4000000 in
set_option maxRecDepth 100000 in
theorem lr_refused (A0 : Option Addr) (c0 : Nat) (l0 : List Int) (a1 a2 r2 : Int) (w : World)
  (h : ((a1 < 0 ∨ 255 < a1) ∧ r2 = 2) ∨ (0 ≤ a1 ∧ a1 ≤ 255 ∧ a2 < 0 ∧ r2 = 2) ∨ (0 ≤ a1 ∧ a1 ≤ 255 ∧ 0 ≤ a2 ∧ 65536 < a2 ∧ r2 = 3) ∨ (0 ≤ a1 ∧ a1 ≤ 255 ∧ 0 ≤ a2 ∧ a2 ≤ 65536 ∧ 1048576 < (l0.length : Int) ∧ r2 = 3) ∨
   (a1 = 0 ∧ 0 ≤ a2 ∧ a2 ≤ 65536 ∧ (l0.length : Int) ≤ 1048576 ∧ 0 < (l0.length : Int) ∧ r2 = 7)) :
  Calls Try.prog 27 #[.slice A0 l0.length c0, .int .i64 a1, .int .i64 a2] w (LrEnd w [] r2) := by
 rcases h with ⟨h, rfl⟩ | ⟨h1, h2, h, rfl⟩ | ⟨h1, h2, h3, h, rfl⟩ | ⟨h1, h2, h3, h4, h, rfl⟩ | ⟨rfl, h3, h4, h5, h, rfl⟩
 ·have HR := Aside0.mk (fun w => lr_right a1 false (lr_not h) w)
  clear h
  go_enter Try.func27, Try.ntmps27
  go_wp2_with fail
  refine (HR.out _).mono ?_
  rintro e W1 ⟨rfl, rfl⟩
  go_wp2
  go_ret2
  exact lr_end_nil (Below.refl _ _)
 ·have HR := Aside0.mk (fun w => lr_right a1 true (by rw [decide_eq_true h1, decide_eq_true h2]; rfl) w)
  have d := decide_eq_true h
  clear h h1 h2
  go_enter Try.func27, Try.ntmps27
  go_wp2_with fail
  refine (HR.out _).mono ?_
  rintro e W1 ⟨rfl, rfl⟩
  go_wp2
  go_ret2
  exact lr_end_nil (Below.refl _ _)
 ·have HR := Aside0.mk (fun w => lr_right a1 true (by rw [decide_eq_true h1, decide_eq_true h2]; rfl) w)
  have d := decide_eq_true h
  have d3 := decide_eq_false (show ¬ a2 < 0 by omega)
  clear h h1 h2 h3
  go_enter Try.func27, Try.ntmps27
  go_wp2_with fail
  refine (HR.out _).mono ?_
  rintro e W1 ⟨rfl, rfl⟩
  go_wp2
  go_ret2
  exact lr_end_nil (Below.refl _ _)
 ·have HR := Aside0.mk (fun w => lr_right a1 true (by rw [decide_eq_true h1, decide_eq_true h2]; rfl) w)
  have d := decide_eq_true h
  have d3 := decide_eq_false (show ¬ a2 < 0 by omega)
  have d4 := decide_eq_false (show ¬ 65536 < a2 by omega)
  clear h h1 h2 h3 h4
  go_enter Try.func27, Try.ntmps27
  go_wp2_with fail
  refine (HR.out _).mono ?_
  rintro e W1 ⟨rfl, rfl⟩
  go_wp2
  go_ret2
  exact lr_end_nil (Below.refl _ _)
 ·have HR := Aside0.mk (fun w => lr_right 0 true (by rfl) w)
  have d := decide_eq_true h
  have e := decide_eq_true (show 0 < l0.length by omega)
  have hn : 0 < l0.length := by omega
  have d3 := decide_eq_false (show ¬ a2 < 0 by omega)
  have d4 := decide_eq_false (show ¬ 65536 < a2 by omega)
  have d5 := decide_eq_false (show ¬ 1048576 < (l0.length : Int) by omega)
  clear h h3 h4 h5
  go_enter Try.func27, Try.ntmps27
  go_wp2_with fail
  refine (HR.out _).mono ?_
  rintro e W1 ⟨rfl, rfl⟩
  go_wp2
  go_ret2
  exact lr_end_nil (Below.refl _ _)
set_option maxHeartbeats 4000000 in
set_option maxRecDepth 100000 in
theorem lr_zero (A0 : Option Addr) (c0 : Nat) (l0 : List Int) (a2 : Int) (w : World) (h3 : 0 ≤ a2) (h4 : a2 ≤ 65536) (h5 : (l0.length : Int) ≤ 1048576) (h6 : l0.length = 0) :
  Calls Try.prog 27 #[.slice A0 l0.length c0, .int .i64 0, .int .i64 a2] w (LrEnd w (List.replicate a2.toNat 0) 0) := by
 have HR := Aside0.mk (fun w => lr_right 0 true (by rfl) w)
 have d3 := decide_eq_false (show ¬ a2 < 0 by omega)
 have d4 := decide_eq_false (show ¬ 65536 < a2 by omega)
 rw [h6]
 clear h6 h5
 have hz : 0 ≤ a2 := h3
 go_enter Try.func27, Try.ntmps27
 go_wp2_with fail
 refine (HR.out _).mono ?_
 rintro e W1 ⟨rfl, rfl⟩
 go_wp2_with (first | ((with_reducible refine gate_dst (N := 40) rfl ?_); (try (refine gate_guard (by rfl) ?_; dsimp only)); refine Kd.R_make (Kd.int .i64) _ 3 rfl (N := 40) rfl 23 _ _ rfl a2 rfl rfl Try.underlying23 (.int .i64 0) 8 info3 rfl (by decide) (by omega) 0 (ok := fun _ => True) (okp := fun _ => True) rfl (fun _ hk => hk) trivial h3 (by omega) (Below.refl _ _) (Nat.le_refl _) ?_; intro v2 w2 ho2 hb2 hg2 hnew2; clear hg2 hnew2; have HO := Aside0.mk ho2; have HB := Aside0.mk hb2; clear ho2 hb2))
 go_ret2
 exact ⟨_, rfl, HO.out, HB.out⟩
set_option maxHeartbeats 4000000 in
set_option maxRecDepth 100000 in
theorem lr_main (k : Nat) (A0 : Option Addr) (c0 : Nat) (l0 : List Int) (m : Nat) (a2 : Int) (p1 : List Int) (p2 : Int) (r1 : List Int) (r2 : Int) (w : World) (hr0 : Kd.C (Kd.int .u8) w A0 l0.length l0) (hc0 : l0.length ≤ c0) (hm0 : 0 < m) (hm1 : m ≤ 255) (h3 : 0 ≤ a2) (h4 : a2 ≤ 65536) (h5 : (l0.length : Int) ≤ 1048576)
  (hp : hybrid_Read.f k l0 ((Nx.wd m : Nat) : Int) a2 = some (p1, p2)) (h : (if p2 = 0 then (if p1.any (fun x => decide ((m : Int) < x)) = true then some ([], 4) else some (p1, 0)) else some ([], p2)) = some (r1, r2)) :
  Calls Try.prog 27 #[.slice A0 l0.length c0, .int .i64 m, .int .i64 a2] w (LrEnd w r1 r2) := by
 have HR := Aside0.mk (fun w => lr_right (m : Int) true (by rw [decide_eq_true (show (0 : Int) ≤ m by omega), decide_eq_true (show (m : Int) ≤ 255 by omega)]; rfl) w)
 have d3 := decide_eq_false (show ¬ a2 < 0 by omega)
 have d4 := decide_eq_false (show ¬ 65536 < a2 by omega)
 have d5 := decide_eq_false (show ¬ 1048576 < (l0.length : Int) by omega)
 have d6 : ((m : Int) == 0) = false := by simp; omega
 have HT := Aside0.mk (fun W => lv_table W)
 have ht := fun W => lv_index m (by omega) W
 obtain ⟨wm, hwm⟩ : ∃ x : Int, x = ((Nx.wd m : Nat) : Int) := ⟨_, rfl⟩
 rw [← hwm] at ht hp
 clear hwm
 have HP := Aside0.mk (fun W hb => hybrid_Read.calls k A0 c0 l0 wm a2 p1 p2 W (Kd.C_below hr0 hb) hc0 hp)
 have H := Aside0.mk h
 clear hp h hr0
 go_enter Try.func27, Try.ntmps27
 go_wp2_with fail
 refine (HR.out _).mono ?_
 rintro e W1 ⟨rfl, rfl⟩
 go_wp2_with fail
 refine (HT.out _).mono ?_
 rintro e W2 ⟨rfl, hB⟩
 have HB := Aside0.mk hB
 clear hB HT
 go_wp2_with fail
 refine (HP.out W2 HB.out).mono ?_
 rintro e W3 ⟨v0, rfl, hR, hB⟩
 have HB3 := Aside0.mk (HB.out.trans (hB.mono HB.out.size))
 have HR3 := Aside0.mk (Kd.R_lower hR HB.out.size)
 obtain ⟨Al, cl, rfl⟩ := Kd.R_slice hR
 have HC3 := Aside0.mk (Kd.R_reads' hR).2.2
 have hpl : p1.length ≤ 9223372036854775807 := (Kd.R_reads' hR).2.2.2.1
 clear hR hB HB HP ht
 by_cases c1 : p2 = 0
 ·subst c1
  go_wp2_with fail
  go_loopw [55] (fun v55 w' => ∃ j : Nat, v55 = .int .i64 j ∧ j ≤ p1.length ∧ Aside0 (p1.any (fun x => decide ((m : Int) < x)) = (p1.drop j).any (fun x => decide ((m : Int) < x))) ∧ w' = W3) (fun v55 _ => p1.length - (intOf v55).toNat)
  case atStart => exact ⟨0, rfl, Nat.zero_le _, ⟨rfl⟩, rfl⟩
  case round =>
   obtain ⟨j, rfl, hj, HA, rfl⟩ := hrel
   by_cases hlt : j < p1.length
   ·have hA := HA.out
    rw [lr_drop hlt, List.any_cons] at hA
    obtain ⟨ad, rfl, hcell⟩ := c_at HC3.out (j : Int) (by omega) (by omega)
    have e : rd p1 (j : Int) = p1.getD j 0 := rfl
    rw [e, show ((j : Int)).toNat = j from rfl] at hcell
    obtain ⟨x, hx⟩ : ∃ x, x = p1.getD j 0 := ⟨_, rfl⟩
    rw [← hx] at hcell hA
    clear e hx HA
    by_cases b1 : (m : Int) < x
    ·have hb1 := decide_eq_true b1
     have h := H.out
     rw [if_pos trivial, if_pos (by rw [hA, hb1]; rfl)] at h
     have hr := Aside0.mk (show [] = r1 ∧ 4 = r2 by simpa using h)
     clear h hA b1
     go_wp2
     go_ret2
     obtain ⟨rfl, rfl⟩ := hr.out
     exact lr_end_nil HB3.out
    ·have hb1 := decide_eq_false b1
     have HA' := Aside0.mk (show p1.any (fun x => decide ((m : Int) < x)) = (p1.drop (j + 1)).any (fun x => decide ((m : Int) < x)) by rw [hA, hb1]; rfl)
     clear hA b1
     go_wp2
     go_roundw
     case rel => exact ⟨j + 1, by go_num, by omega, HA', trivial⟩
     case measure => simp [intOf]; omega
   ·have hA := HA.out
    rw [List.drop_eq_nil_of_le (by omega)] at hA
    have h := H.out
    rw [if_pos trivial, if_neg (by rw [hA]; simp)] at h
    have hr := Aside0.mk (show p1 = r1 ∧ 0 = r2 by simpa using h)
    clear hA HA h
    go_wp2
    go_ret2
    obtain ⟨rfl, rfl⟩ := hr.out
    exact ⟨_, rfl, HR3.out, HB3.out⟩
 ·have d : (p2 != 0) = true := by simp [c1]
  have h := H.out
  rw [if_neg c1] at h
  have hr := Aside0.mk (show [] = r1 ∧ p2 = r2 by simpa using h)
  clear h c1
  go_wp2
  go_ret2
  obtain ⟨rfl, rfl⟩ := hr.out
  exact lr_end_nil HB3.out
theorem levels_Read.calls (k : Nat) (A0 : Option Addr) (c0 : Nat) (l0 : List Int) (a1 : Int) (a2 : Int) (r1 : List Int) (r2 : Int) (w : World) (hr0 : Kd.C (Kd.int .u8) w A0 l0.length l0) (hc0 : l0.length ≤ c0) (h : levels_Read.f k l0 a1 a2 = some (r1, r2)) :
  Calls Try.prog 27 #[.slice A0 l0.length c0, .int .i64 a1, .int .i64 a2] w fun e w' => ∃ v0_ : Value, e = .returned (.tuple #[v0_, .int .i64 r2]) ∧ Kd.R (Kd.int .i64) 3 w' w.heap.size (fun _ => True) v0_ r1 ∧ Below w.heap.size w w' := by
 unfold levels_Read.f at h
 by_cases b1 : a1 < 0
 ·rw [if_pos b1] at h
  obtain ⟨rfl, rfl⟩ : [] = r1 ∧ 2 = r2 := by simpa using h
  exact lr_refused A0 c0 l0 a1 a2 2 w (.inl ⟨.inl b1, rfl⟩)
 rw [if_neg b1] at h
 by_cases b2 : 255 < a1
 ·rw [if_pos b2] at h
  obtain ⟨rfl, rfl⟩ : [] = r1 ∧ 2 = r2 := by simpa using h
  exact lr_refused A0 c0 l0 a1 a2 2 w (.inl ⟨.inr b2, rfl⟩)
 rw [if_neg b2] at h
 by_cases b3 : a2 < 0
 ·rw [if_pos b3] at h
  obtain ⟨rfl, rfl⟩ : [] = r1 ∧ 2 = r2 := by simpa using h
  exact lr_refused A0 c0 l0 a1 a2 2 w (.inr (.inl ⟨by omega, by omega, b3, rfl⟩))
 rw [if_neg b3] at h
 by_cases b4 : 65536 < a2
 ·rw [if_pos b4] at h
  obtain ⟨rfl, rfl⟩ : [] = r1 ∧ 3 = r2 := by simpa using h
  exact lr_refused A0 c0 l0 a1 a2 3 w (.inr (.inr (.inl ⟨by omega, by omega, by omega, b4, rfl⟩)))
 rw [if_neg b4] at h
 by_cases b5 : 1048576 < (l0.length : Int)
 ·rw [if_pos b5] at h
  obtain ⟨rfl, rfl⟩ : [] = r1 ∧ 3 = r2 := by simpa using h
  exact lr_refused A0 c0 l0 a1 a2 3 w (.inr (.inr (.inr (.inl ⟨by omega, by omega, by omega, by omega, b5, rfl⟩))))
 rw [if_neg b5] at h
 by_cases b6 : a1 = 0
 ·rw [if_pos b6] at h
  subst b6
  by_cases b7 : 0 < (l0.length : Int)
  ·rw [if_pos b7] at h
   obtain ⟨rfl, rfl⟩ : [] = r1 ∧ 7 = r2 := by simpa using h
   exact lr_refused A0 c0 l0 0 a2 7 w (.inr (.inr (.inr (.inr ⟨rfl, by omega, by omega, by omega, b7, rfl⟩))))
  ·rw [if_neg b7] at h
   obtain ⟨rfl, rfl⟩ : List.replicate a2.toNat 0 = r1 ∧ 0 = r2 := by simpa using h
   exact lr_zero A0 c0 l0 a2 w (by omega) (by omega) (by omega) (by omega)
 ·rw [if_neg b6] at h
  obtain ⟨⟨p1, p2⟩, hp, h⟩ := Option.bind_eq_some_iff.1 h
  obtain ⟨m, rfl⟩ := Int.eq_ofNat_of_zero_le (show 0 ≤ a1 by omega)
  exact lr_main k A0 c0 l0 m a2 p1 p2 r1 r2 w hr0 hc0 (by omega) (by omega) (by omega) (by omega) (by omega) hp h

end Go.Proofs.Ytpibhiacmceekaa.X

namespace Go.Proofs.Ytpibhiacmceekaa.X
open Go.RowKit Go.Proofs.YtpibhiacmceekaaW.PrintWords Go.Proofs.YtpibhiacmceekaaW.PrintLast Go.Proofs.YtpibhiacmceekaaW.PrintMore
attribute [local go_sem] max2_int min2_int max_two min_two max_three min_three max_four min_four   -- for this text's walks alone
set_option linter.unusedVariables false
set_option linter.unusedSimpArgs false

/-! ### levels_Unframe: function 29 -/
mutual
def levels_Unframe.j0 : Nat → List Int → Int → Int → Bool → Option (List Int × Int × Int)
 | 0, _, _, _, _ => none
 | k + 1, x0, x1, x2, x12 => if x12 = true then (some (([] : List Int), 0, 2)) else (if x2 > 65536 then (levels_Unframe.j1 k x0 x1 x2 true) else (levels_Unframe.j1 k x0 x1 x2 (decide ((x0.length : Int) > 1048576))))
def levels_Unframe.j1 : Nat → List Int → Int → Int → Bool → Option (List Int × Int × Int)
 | 0, _, _, _, _ => none
 | k + 1, x0, x1, x2, x20 => if x20 = true then (some (([] : List Int), 0, 3)) else (if x1 = 0 then (if 0 ≤ x2 then (if (x2 : Int).toNat ≤ 35184372088832 then (some ((List.replicate (x2 : Int).toNat 0), 0, 0)) else (none)) else (none)) else ((bits_ReadLittle.f k x0 0 4).bind fun bt405 => (if bt405.2 = 0 then (levels_Unframe.j2 k x0 x1 x2 bt405.1 (decide (bt405.1 > (IntKind.u64.wrap (wrap64 ((x0.length : Int) - 4)))))) else (levels_Unframe.j2 k x0 x1 x2 bt405.1 true))))
def levels_Unframe.j2 : Nat → List Int → Int → Int → Int → Bool → Option (List Int × Int × Int)
 | 0, _, _, _, _, _ => none
 | k + 1, x0, x1, x2, x9, x47 => if x47 = true then (some (([] : List Int), 0, 6)) else (if 4 ≤ (IntKind.u64.wrap (4 + x9)) then (if (IntKind.u64.wrap (4 + x9)) ≤ (x0.length : Int) then ((levels_Read.f k ((x0.take ((IntKind.u64.wrap (4 + x9)) : Int).toNat).drop 4) x1 x2).bind fun bt408 => (if bt408.2 = 0 then (some (bt408.1, wrap64 (4 + (wrap64 (x9))), 0)) else (some (([] : List Int), 0, bt408.2)))) else (none)) else (none))
end
def levels_Unframe.f (k : Nat) (l0 : List Int) (a1 : Int) (a2 : Int) : Option (List Int × Int × Int) := (levels_right.f a1).bind fun t401 => (if t401 = true then (levels_Unframe.j0 k l0 a1 a2 (decide (a2 < 0))) else (levels_Unframe.j0 k l0 a1 a2 true))
theorem levels_Unframe.mono_l : ∀ k, (∀ y0 y1 y2 y3, LeO (levels_Unframe.j0 k y0 y1 y2 y3) (levels_Unframe.j0 (k + 1) y0 y1 y2 y3)) ∧ (∀ y0 y1 y2 y3, LeO (levels_Unframe.j1 k y0 y1 y2 y3) (levels_Unframe.j1 (k + 1) y0 y1 y2 y3)) ∧ (∀ y0 y1 y2 y3 y4, LeO (levels_Unframe.j2 k y0 y1 y2 y3 y4) (levels_Unframe.j2 (k + 1) y0 y1 y2 y3 y4))
 | 0 => ⟨fun _ _ _ _ r h => by simp [levels_Unframe.j0] at h, fun _ _ _ _ r h => by simp [levels_Unframe.j1] at h, fun _ _ _ _ _ r h => by simp [levels_Unframe.j2] at h⟩
 | k + 1 => by
  obtain ⟨ih0, ih1, ih2⟩ := levels_Unframe.mono_l k
  refine ⟨?_, ?_, ?_⟩
  ·intro y0 y1 y2 y3
   unfold levels_Unframe.j0
   repeat' first
   | (with_reducible exact ih0 _ _ _ _)
   | (with_reducible exact ih1 _ _ _ _)
   | (with_reducible exact ih2 _ _ _ _ _)
   | (with_reducible exact bits_ReadLittle.mono _ _ _ _)
   | (with_reducible exact levels_Read.mono _ _ _ _)
   | (with_reducible exact LeO.refl _)
   | (with_reducible exact LeO.none _)
   | (with_reducible refine LeO.ite ?_ ?_)
   | (with_reducible refine LeO.bind ?_ (fun _ => ?_))
   | exact ih0 _ _ _ _
   | exact ih1 _ _ _ _
   | exact ih2 _ _ _ _ _
   | exact bits_ReadLittle.mono _ _ _ _
   | exact levels_Read.mono _ _ _ _
   | exact LeO.none _
   | refine LeO.ite ?_ ?_
   | refine LeO.bind ?_ (fun _ => ?_)
  ·intro y0 y1 y2 y3
   unfold levels_Unframe.j1
   repeat' first
   | (with_reducible exact ih0 _ _ _ _)
   | (with_reducible exact ih1 _ _ _ _)
   | (with_reducible exact ih2 _ _ _ _ _)
   | (with_reducible exact bits_ReadLittle.mono _ _ _ _)
   | (with_reducible exact levels_Read.mono _ _ _ _)
   | (with_reducible exact LeO.refl _)
   | (with_reducible exact LeO.none _)
   | (with_reducible refine LeO.ite ?_ ?_)
   | (with_reducible refine LeO.bind ?_ (fun _ => ?_))
   | exact ih0 _ _ _ _
   | exact ih1 _ _ _ _
   | exact ih2 _ _ _ _ _
   | exact bits_ReadLittle.mono _ _ _ _
   | exact levels_Read.mono _ _ _ _
   | exact LeO.none _
   | refine LeO.ite ?_ ?_
   | refine LeO.bind ?_ (fun _ => ?_)
  ·intro y0 y1 y2 y3 y4
   unfold levels_Unframe.j2
   repeat' first
   | (with_reducible exact ih0 _ _ _ _)
   | (with_reducible exact ih1 _ _ _ _)
   | (with_reducible exact ih2 _ _ _ _ _)
   | (with_reducible exact bits_ReadLittle.mono _ _ _ _)
   | (with_reducible exact levels_Read.mono _ _ _ _)
   | (with_reducible exact LeO.refl _)
   | (with_reducible exact LeO.none _)
   | (with_reducible refine LeO.ite ?_ ?_)
   | (with_reducible refine LeO.bind ?_ (fun _ => ?_))
   | exact ih0 _ _ _ _
   | exact ih1 _ _ _ _
   | exact ih2 _ _ _ _ _
   | exact bits_ReadLittle.mono _ _ _ _
   | exact levels_Read.mono _ _ _ _
   | exact LeO.none _
   | refine LeO.ite ?_ ?_
   | refine LeO.bind ?_ (fun _ => ?_)
theorem levels_Unframe.mono : ∀ a0 a1 a2 k, LeO (levels_Unframe.f k a0 a1 a2) (levels_Unframe.f (k + 1) a0 a1 a2) := by
 intro a0 a1 a2 k
 obtain ⟨ih0, ih1, ih2⟩ := levels_Unframe.mono_l k
 unfold levels_Unframe.f
 repeat' first
   | (with_reducible exact ih0 _ _ _ _)
   | (with_reducible exact ih1 _ _ _ _)
   | (with_reducible exact ih2 _ _ _ _ _)
   | (with_reducible exact bits_ReadLittle.mono _ _ _ _)
   | (with_reducible exact levels_Read.mono _ _ _ _)
   | (with_reducible exact LeO.refl _)
   | (with_reducible exact LeO.none _)
   | (with_reducible refine LeO.ite ?_ ?_)
   | (with_reducible refine LeO.bind ?_ (fun _ => ?_))
   | exact ih0 _ _ _ _
   | exact ih1 _ _ _ _
   | exact ih2 _ _ _ _ _
   | exact bits_ReadLittle.mono _ _ _ _
   | exact levels_Read.mono _ _ _ _
   | exact LeO.none _
   | refine LeO.ite ?_ ?_
   | refine LeO.bind ?_ (fun _ => ?_)
set_option maxHeartbeats 8000000 in
set_option maxRecDepth 100000 in
theorem levels_Unframe.calls (k : Nat) (A0 : Option Addr) (c0 : Nat) (l0 : List Int) (a1 : Int) (a2 : Int) (r1 : List Int) (r2 : Int) (r3 : Int) (w : World) (hr0 : Kd.C (Kd.int .u8) w A0 l0.length l0) (hc0 : l0.length ≤ c0) (h : levels_Unframe.f k l0 a1 a2 = some (r1, r2, r3)) :
  Calls Try.prog 29 #[.slice A0 l0.length c0, .int .i64 a1, .int .i64 a2] w fun e w' => ∃ v0_ : Value, e = .returned (.tuple #[v0_, .int .i64 r2, .int .i64 r3]) ∧ Kd.R (Kd.int .i64) 3 w' w.heap.size (fun _ => True) v0_ r1 ∧ Below w.heap.size w w' := by
 have HR0 := Aside0.mk hr0
 have HC0 := Aside0.mk hc0
 clear hr0 hc0
 have HB := Aside0.mk (Below.refl w.heap.size w)
 have H : ((levels_right.f a1).bind fun t401 => (if t401 = true then (levels_Unframe.j0 k l0 a1 a2 (decide (a2 < 0))) else (levels_Unframe.j0 k l0 a1 a2 true))) = some (r1, r2, r3) := h
 clear h
 have HC4 := Aside0.mk H
 clear H
 go_enter Try.func29, Try.ntmps29
 go_upto_region 1 with (fail)
 go_cut [12] (fun v12 wc => ∃ (kq : Nat) (x12_3 : Bool), v12 = .bool x12_3 ∧ Aside0 (levels_Unframe.j0 kq l0 a1 a2 x12_3 = some (r1, r2, r3)) ∧ Aside0 (kq ≤ k) ∧ Aside0 (Below w.heap.size w wc))
 case first =>
  have H := HC4.out
  clear HC4
  replace H := Option.bind_eq_some_iff.mp H
  obtain ⟨t401, A50, H⟩ := H
  replace H : (if t401 = true then (levels_Unframe.j0 k l0 a1 a2 (decide (a2 < 0))) else (levels_Unframe.j0 k l0 a1 a2 true)) = some (r1, r2, r3) := H
  have A5 := Aside0.mk A50
  clear A50
  by_cases c6 : t401 = true
  ·subst c6
   have H1 : (levels_Unframe.j0 k l0 a1 a2 (decide (a2 < 0))) = some (r1, r2, r3) := by rw [if_pos rfl] at H; exact H
   clear H
   have H := H1
   clear H1
   have H' := Aside0.mk H
   clear H
   go_wp2_with (first | ((with_reducible refine gate_callee (f := 46) rfl ?_); refine goesL_ (some 14) rfl rfl Try.func46 (by kernel_rfl) rfl #[.int .i64 a1] rfl (by (try simp only [List.map_toArray, List.map_cons, List.map_nil]); first | done | rfl | (simp only [List.length_drop, List.length_take]; rfl)) ?_; (with_reducible refine (levels_right.calls a1 true _ A5.out).mono ?_); rintro e w' ⟨rfl, ⟨nd, rfl⟩⟩; refine ⟨_, rfl, ?_⟩))
   go_meet
   case rel => exact ⟨_, (decide (a2 < 0)), (by first | rfl | (simp; done) | (simp [*]; done)), H', ⟨by first | omega | exact Nat.le_refl _⟩, ⟨by repeat (first | (with_reducible first | exact HB.out | apply below_alloc | apply pw_below_drewN | apply below_drew1) | exact HB.out)⟩⟩
  ·replace c6 := Bool.eq_false_iff.mpr c6
   subst c6
   have H1 : (levels_Unframe.j0 k l0 a1 a2 true) = some (r1, r2, r3) := by rw [if_neg (show ¬ (false = true) by decide)] at H; exact H
   clear H
   have H := H1
   clear H1
   have H' := Aside0.mk H
   clear H
   go_wp2_with (first | ((with_reducible refine gate_callee (f := 46) rfl ?_); refine goesL_ (some 14) rfl rfl Try.func46 (by kernel_rfl) rfl #[.int .i64 a1] rfl (by (try simp only [List.map_toArray, List.map_cons, List.map_nil]); first | done | rfl | (simp only [List.length_drop, List.length_take]; rfl)) ?_; (with_reducible refine (levels_right.calls a1 false _ A5.out).mono ?_); rintro e w' ⟨rfl, ⟨nd, rfl⟩⟩; refine ⟨_, rfl, ?_⟩))
   go_meet
   case rel => exact ⟨_, (true), (by first | rfl | (simp; done) | (simp [*]; done)), H', ⟨by first | omega | exact Nat.le_refl _⟩, ⟨by repeat (first | (with_reducible first | exact HB.out | apply below_alloc | apply pw_below_drewN | apply below_drew1) | exact HB.out)⟩⟩
 case rest =>
  clear HC4
  try clear c2
  try clear p2
  try clear c4
  try clear c6
  obtain ⟨kq, x12_3, rfl, HA, HJ3, HB⟩ := hcut
  cases kq with
  | zero => exact absurd HA.out (by simp [levels_Unframe.j0])
  | succ kj3 =>
   have H := HA.out
   clear HA
   simp only [levels_Unframe.j0] at H
   by_cases c7 : x12_3 = true
   ·subst c7
    have H1 : (some (([] : List Int), 0, 2)) = some (r1, r2, r3) := by rw [if_pos rfl] at H; exact H
    clear H
    have H := H1
    clear H1
    simp only [Option.some.injEq, Prod.mk.injEq] at H
    obtain ⟨rfl, rfl, rfl⟩ := H
    go_wp2
    go_ret3
    exact ⟨_, by first | rfl | (simp [errW_none, errW_some] <;> rfl) | (simp [*, errW_none, errW_some] <;> rfl), by first | exact Kd.R_nil _ _ _ _ _ | exact Kd.N_nil _ _ _ _ _ | exact Kd.V_nil _ _ _ _ _ | exact Kd.Q_nil _ _ _ _ _ | exact Kd.S_nil _ _ _ _ _, by repeat (first | (with_reducible first | exact HB.out | apply below_alloc | apply pw_below_drewN | apply below_drew1) | exact HB.out)⟩
   ·replace c7 := Bool.eq_false_iff.mpr c7
    subst c7
    have H1 : (if a2 > 65536 then (levels_Unframe.j1 kj3 l0 a1 a2 true) else (levels_Unframe.j1 kj3 l0 a1 a2 (decide ((l0.length : Int) > 1048576)))) = some (r1, r2, r3) := by rw [if_neg (show ¬ (false = true) by decide)] at H; exact H
    clear H
    have H := H1
    clear H1
    have HC8 := Aside0.mk H
    clear H
    go_upto_region 3 with (fail)
    go_cut [20] (fun v20 wc => ∃ (kq : Nat) (x20_7 : Bool), v20 = .bool x20_7 ∧ Aside0 (levels_Unframe.j1 kq l0 a1 a2 x20_7 = some (r1, r2, r3)) ∧ Aside0 (kq ≤ kj3) ∧ Aside0 (Below w.heap.size w wc))
    case first =>
     have H := HC8.out
     clear HC8
     by_cases c9 : a2 > 65536
     ·rw [if_pos c9] at H
      have c9b0 : decide (65536 < a2) = true := decide_eq_true c9
      clear c9
      (first | rw [c9b0] | (simp only [i64_w, i32_w]; rw [c9b0]) | skip)
      have H' := Aside0.mk H
      clear H
      go_wp2
      go_meet
      case rel => exact ⟨_, (true), (by first | rfl | (simp; done) | (simp [*]; done)), H', ⟨by have := HJ3.out; first | omega | exact Nat.le_refl _⟩, ⟨by repeat (first | (with_reducible first | exact HB.out | apply below_alloc | apply pw_below_drewN | apply below_drew1) | exact HB.out)⟩⟩
     ·rw [if_neg c9] at H
      have c9b0 : decide (65536 < a2) = false := decide_eq_false c9
      clear c9
      (first | rw [c9b0] | (simp only [i64_w, i32_w]; rw [c9b0]) | skip)
      have H' := Aside0.mk H
      clear H
      go_wp2
      go_meet
      case rel => exact ⟨_, (decide ((l0.length : Int) > 1048576)), (by first | rfl | (simp; done) | (simp [*]; done)), H', ⟨by have := HJ3.out; first | omega | exact Nat.le_refl _⟩, ⟨by repeat (first | (with_reducible first | exact HB.out | apply below_alloc | apply pw_below_drewN | apply below_drew1) | exact HB.out)⟩⟩
    case rest =>
     clear HC8
     try clear c2
     try clear p2
     try clear c4
     try clear c6
     try clear c7
     try clear c9
     try clear c9b0
     try clear p2
     obtain ⟨kq, x20_7, rfl, HA, HJ7, HB⟩ := hcut
     cases kq with
     | zero => exact absurd HA.out (by simp [levels_Unframe.j1])
     | succ kj7 =>
      have H := HA.out
      clear HA
      simp only [levels_Unframe.j1] at H
      by_cases c10 : x20_7 = true
      ·subst c10
       have H1 : (some (([] : List Int), 0, 3)) = some (r1, r2, r3) := by rw [if_pos rfl] at H; exact H
       clear H
       have H := H1
       clear H1
       simp only [Option.some.injEq, Prod.mk.injEq] at H
       obtain ⟨rfl, rfl, rfl⟩ := H
       go_wp2
       go_ret3
       exact ⟨_, by first | rfl | (simp [errW_none, errW_some] <;> rfl) | (simp [*, errW_none, errW_some] <;> rfl), by first | exact Kd.R_nil _ _ _ _ _ | exact Kd.N_nil _ _ _ _ _ | exact Kd.V_nil _ _ _ _ _ | exact Kd.Q_nil _ _ _ _ _ | exact Kd.S_nil _ _ _ _ _, by repeat (first | (with_reducible first | exact HB.out | apply below_alloc | apply pw_below_drewN | apply below_drew1) | exact HB.out)⟩
      ·replace c10 := Bool.eq_false_iff.mpr c10
       subst c10
       have H1 : (if a1 = 0 then (if 0 ≤ a2 then (if (a2 : Int).toNat ≤ 35184372088832 then (some ((List.replicate (a2 : Int).toNat 0), 0, 0)) else (none)) else (none)) else ((bits_ReadLittle.f kj7 l0 0 4).bind fun bt405 => (if bt405.2 = 0 then (levels_Unframe.j2 kj7 l0 a1 a2 bt405.1 (decide (bt405.1 > (IntKind.u64.wrap (wrap64 ((l0.length : Int) - 4)))))) else (levels_Unframe.j2 kj7 l0 a1 a2 bt405.1 true)))) = some (r1, r2, r3) := by rw [if_neg (show ¬ (false = true) by decide)] at H; exact H
       clear H
       have H := H1
       clear H1
       by_cases c11 : a1 = 0
       ·rw [if_pos c11] at H
        have c11b0 : (a1 == 0) = true := beq_iff_eq.mpr c11
        have c11b1 : (a1 != 0) = false := bne_eq_false_iff_eq.mpr c11
        clear c11
        by_cases c12 : 0 ≤ a2
        ·rw [if_pos c12] at H
         have c12b0 := eq_true c12
         have c12b1 : decide (0 ≤ a2) = true := decide_eq_true c12
         clear c12
         by_cases c13 : (a2 : Int).toNat ≤ 35184372088832
         ·rw [if_pos c13] at H
          have c13b0 := eq_true c13
          have c13b1 : decide ((a2 : Int).toNat ≤ 35184372088832) = true := decide_eq_true c13
          clear c13
          obtain ⟨y402, hy402⟩ : ∃ y_ : List Int, y_ = (List.replicate (a2 : Int).toNat 0) := ⟨_, rfl⟩
          replace H : (some (y402, 0, 0)) = some (r1, r2, r3) := by first | (rw [hy402]; with_reducible exact H) | (have H2_ := (Option.bind_some _ _).symm.trans H; rw [hy402]; with_reducible exact H2_) | (have H2_ := (Option.bind_some _ _).symm.trans H; with_reducible exact H2_) | with_reducible exact H | (rw [hy402]; exact H) | exact H
          have Ny402 := Aside0.mk hy402
          clear hy402
          simp only [Option.some.injEq, Prod.mk.injEq] at H
          obtain ⟨rfl, rfl, rfl⟩ := H
          go_wp2_with (first | ((with_reducible refine gate_dst (N := 32) rfl ?_); (try (refine gate_guard (by rfl) ?_; dsimp only)); refine Kd.R_make (Kd.int .i64) _ 3 rfl (N := 32) rfl 23 _ _ rfl a2 rfl rfl Try.underlying23 (.int .i64 0) 8 info3 rfl (by decide) (by omega) 0 (ok := fun _ => True) (okp := fun _ => True) rfl (fun _ hk => hk) trivial (of_decide_eq_true (by first | (with_reducible assumption) | assumption)) (Nat.le_trans (Nat.mul_le_mul_right _ (of_decide_eq_true (by first | (with_reducible assumption) | assumption) : a2.toNat ≤ 35184372088832)) (by omega)) (Below.refl _ _) (Nat.le_refl _) ?_; intro v403 w14 ho15 hb hg_ hnew_; clear hg_ hnew_; (first | rw [← Ny402.out] at ho15 | (simp only [Int.reduceToNat] at ho15; rw [← Ny402.out] at ho15)); have n0_ := Aside0.mk (Kd.R_lower ho15 (below_size (by repeat (first | (with_reducible first | exact HB.out | apply below_alloc | apply pw_below_drewN | apply below_drew1) | exact HB.out)))); have n1_ := Aside0.mk (below_step (by repeat (first | (with_reducible first | exact HB.out | apply below_alloc | apply pw_below_drewN | apply below_drew1) | exact HB.out)) hb); clear HB; have HO404 := n0_; have HB := n1_; clear n0_ n1_; clear hb ho15))
          go_ret3
          exact ⟨_, by first | rfl | (simp [errW_none, errW_some] <;> rfl) | (simp [*, errW_none, errW_some] <;> rfl), by (with_reducible repeat (first | apply Kd.R_alloc | apply Kd.R_drewN | apply Kd.R_drew)); exact HO404.out, by repeat (first | (with_reducible first | exact HB.out | apply below_alloc | apply pw_below_drewN | apply below_drew1) | exact HB.out)⟩
         ·rw [if_neg c13] at H
          exact absurd H (by simp)
        ·rw [if_neg c12] at H
         exact absurd H (by simp)
       ·rw [if_neg c11] at H
        have c11b0 : (a1 == 0) = false := beq_eq_false_iff_ne.mpr c11
        have c11b1 : (a1 != 0) = true := bne_iff_ne.mpr c11
        replace H := Option.bind_eq_some_iff.mp H
        obtain ⟨⟨t405, t406⟩, A160, H⟩ := H
        replace H : (if t406 = 0 then (levels_Unframe.j2 kj7 l0 a1 a2 t405 (decide (t405 > (IntKind.u64.wrap (wrap64 ((l0.length : Int) - 4)))))) else (levels_Unframe.j2 kj7 l0 a1 a2 t405 true)) = some (r1, r2, r3) := H
        have A16 := Aside0.mk A160
        clear A160
        have HC17 := Aside0.mk H
        clear H
        go_upto_region 8 with (first | ((with_reducible refine gate_callee (f := 50) rfl ?_); refine goesL_ (some 35) rfl rfl Try.func50 (by kernel_rfl) rfl #[.slice A0 l0.length c0, .int .i64 0, .int .i64 4] rfl (by (try simp only [List.map_toArray, List.map_cons, List.map_nil]); first | done | rfl | (simp only [List.length_drop, List.length_take]; rfl)) ?_; (with_reducible refine (bits_ReadLittle.calls kj7 _ _ l0 0 4 t405 t406 _ ?side1 ?side2 A16.out).mono ?_); (case side1 => repeat (first | exact (Kd.C_below HR0.out HB.out) | (with_reducible refine Kd.C_alloc ?_ _) | (with_reducible refine Kd.C_drewN ?_ _) | (with_reducible refine Kd.C_drew ?_))); (case side2 => exact HC0.out); rintro e w' ⟨rfl, ⟨nd, rfl⟩⟩; refine ⟨_, rfl, ?_⟩))
        (try simp only [Act.put, List.setIfInBounds_toArray, List.set_cons_zero, List.set_cons_succ])
        go_cut [47] (fun v47 wc => ∃ (kq : Nat) (x47_16 : Bool), v47 = .bool x47_16 ∧ Aside0 (levels_Unframe.j2 kq l0 a1 a2 t405 x47_16 = some (r1, r2, r3)) ∧ Aside0 (kq ≤ kj7) ∧ Aside0 (Below w.heap.size w wc))
        case first =>
         have H := HC17.out
         clear HC17
         by_cases c18 : t406 = 0
         ·rw [if_pos c18] at H
          have c18b0 : (t406 == 0) = true := beq_iff_eq.mpr c18
          have c18b1 : (t406 != 0) = false := bne_eq_false_iff_eq.mpr c18
          clear c18
          (first | rw [c18b0] | (simp only [i64_w, i32_w]; rw [c18b0]) | skip)
          have H' := Aside0.mk H
          clear H
          go_wp2
          go_meet
          case rel => exact ⟨_, (decide (t405 > (IntKind.u64.wrap (wrap64 ((l0.length : Int) - 4))))), (by first | rfl | (simp; done) | (simp [*]; done)), H', ⟨by have := HJ3.out; have := HJ7.out; first | omega | exact Nat.le_refl _⟩, ⟨by repeat (first | (with_reducible first | exact HB.out | apply below_alloc | apply pw_below_drewN | apply below_drew1) | exact HB.out)⟩⟩
         ·rw [if_neg c18] at H
          have c18b0 : (t406 == 0) = false := beq_eq_false_iff_ne.mpr c18
          have c18b1 : (t406 != 0) = true := bne_iff_ne.mpr c18
          (first | rw [c18b0] | (simp only [i64_w, i32_w]; rw [c18b0]) | skip)
          have H' := Aside0.mk H
          clear H
          go_wp2
          go_meet
          case rel => exact ⟨_, (true), (by first | rfl | (simp; done) | (simp [*]; done)), H', ⟨by have := HJ3.out; have := HJ7.out; first | omega | exact Nat.le_refl _⟩, ⟨by repeat (first | (with_reducible first | exact HB.out | apply below_alloc | apply pw_below_drewN | apply below_drew1) | exact HB.out)⟩⟩
        case rest =>
         clear HC17
         try clear c1
         try clear c2
         try clear p2
         try clear c4
         try clear c5
         try clear c6
         try clear p6
         try clear c7
         try clear c9
         try clear c9b0
         try clear c10
         try clear c11
         try clear c11b0
         try clear c11b1
         try clear c12
         try clear c12b0
         try clear c12b1
         try clear c13
         try clear c13b0
         try clear c13b1
         try clear c18
         try clear c18b0
         try clear c18b1
         try clear p2
         obtain ⟨kq, x47_16, rfl, HA, HJ16, HB⟩ := hcut
         cases kq with
         | zero => exact absurd HA.out (by simp [levels_Unframe.j2])
         | succ kj16 =>
          have H := HA.out
          clear HA
          simp only [levels_Unframe.j2] at H
          by_cases c19 : x47_16 = true
          ·subst c19
           have H1 : (some (([] : List Int), 0, 6)) = some (r1, r2, r3) := by rw [if_pos rfl] at H; exact H
           clear H
           have H := H1
           clear H1
           simp only [Option.some.injEq, Prod.mk.injEq] at H
           obtain ⟨rfl, rfl, rfl⟩ := H
           go_wp2
           go_ret3
           exact ⟨_, by first | rfl | (simp [errW_none, errW_some] <;> rfl) | (simp [*, errW_none, errW_some] <;> rfl), by first | exact Kd.R_nil _ _ _ _ _ | exact Kd.N_nil _ _ _ _ _ | exact Kd.V_nil _ _ _ _ _ | exact Kd.Q_nil _ _ _ _ _ | exact Kd.S_nil _ _ _ _ _, by repeat (first | (with_reducible first | exact HB.out | apply below_alloc | apply pw_below_drewN | apply below_drew1) | exact HB.out)⟩
          ·replace c19 := Bool.eq_false_iff.mpr c19
           subst c19
           have H1 : (if 4 ≤ (IntKind.u64.wrap (4 + t405)) then (if (IntKind.u64.wrap (4 + t405)) ≤ (l0.length : Int) then ((levels_Read.f kj16 ((l0.take ((IntKind.u64.wrap (4 + t405)) : Int).toNat).drop 4) a1 a2).bind fun bt408 => (if bt408.2 = 0 then (some (bt408.1, wrap64 (4 + (wrap64 (t405))), 0)) else (some (([] : List Int), 0, bt408.2)))) else (none)) else (none)) = some (r1, r2, r3) := by rw [if_neg (show ¬ (false = true) by decide)] at H; exact H
           clear H
           have H := H1
           clear H1
           by_cases c20 : 4 ≤ (IntKind.u64.wrap (4 + t405))
           ·rw [if_pos c20] at H
            have c20b0 := eq_true c20
            have c20b1 : decide (4 ≤ (IntKind.u64.wrap (4 + t405))) = true := decide_eq_true c20
            by_cases c21 : (IntKind.u64.wrap (4 + t405)) ≤ (l0.length : Int)
            ·rw [if_pos c21] at H
             have c21b0 := eq_true c21
             have c21b1 : decide ((IntKind.u64.wrap (4 + t405)) ≤ (l0.length : Int)) = true := decide_eq_true c21
             replace H := Option.bind_eq_some_iff.mp H
             obtain ⟨⟨t408, t409⟩, A220, H⟩ := H
             replace H : (if t409 = 0 then (some (t408, wrap64 (4 + (wrap64 (t405))), 0)) else (some (([] : List Int), 0, t409))) = some (r1, r2, r3) := H
             have A22 := Aside0.mk A220
             clear A220
             by_cases c23 : t409 = 0
             ·rw [if_pos c23] at H
              have c23b0 : (t409 == 0) = true := beq_iff_eq.mpr c23
              have c23b1 : (t409 != 0) = false := bne_eq_false_iff_eq.mpr c23
              clear c23
              simp only [Option.some.injEq, Prod.mk.injEq] at H
              obtain ⟨rfl, rfl, rfl⟩ := H
              obtain ⟨i024, hi024, _, hsz24, _⟩ := info_parts info5
              obtain ⟨A24, hcut24, hA24, hC24⟩ := print_mid_of (P := Try.prog) (Value.int .u8) 0 37 5 .i64 .u64 Try.underlying37 hi024 hsz24 A0 c0 l0 4 (IntKind.u64.wrap (4 + t405)) (by omega) (by first | omega | exact of_decide_eq_true (by first | (with_reducible assumption) | assumption)) (of_decide_eq_true (by first | (with_reducible assumption) | assumption)) HC0.out
              have HR407 := Aside0.mk (Kd.C_of_reads (h1 := fun _ => rfl) (hA24 _ (Kd.reads_of_C HR0.out)))
              have HC407 := Aside0.mk hC24
              clear hA24 hC24 hi024 hsz24
              go_wp2_with (first | ((with_reducible refine gate_callee (f := 27) rfl ?_); refine goesL_ (some 55) rfl rfl Try.func27 (by kernel_rfl) rfl #[.slice A24 ((l0.take ((IntKind.u64.wrap (4 + t405)) : Int).toNat).drop 4).length (c0 - 4), .int .i64 a1, .int .i64 a2] rfl (by (try simp only [List.map_toArray, List.map_cons, List.map_nil]); first | done | (rw [show ((l0.take ((IntKind.u64.wrap (4 + t405)) : Int).toNat).drop 4).length = ((IntKind.u64.wrap (4 + t405)).toNat - 4) from (by rw [List.length_drop, List.length_take]; have h_ : ((IntKind.u64.wrap (4 + t405)) : Int) ≤ (l0.length : Int) := of_decide_eq_true (by first | (with_reducible assumption) | assumption); omega)] <;> rfl) | rfl | (simp only [List.length_drop, List.length_take]; rfl)) ?_; (with_reducible refine (levels_Read.calls kj16 _ _ ((l0.take ((IntKind.u64.wrap (4 + t405)) : Int).toNat).drop 4) a1 a2 t408 t409 _ ?side1 ?side2 A22.out).mono ?_); (case side1 => repeat (first | exact (Kd.C_below HR407.out HB.out) | (with_reducible refine Kd.C_alloc ?_ _) | (with_reducible refine Kd.C_drewN ?_ _) | (with_reducible refine Kd.C_drew ?_))); (case side2 => exact HC407.out); rintro e w25 ⟨v410, rfl, ho0, hb⟩; refine ⟨_, rfl, ?_⟩; have n0_ := Aside0.mk (Kd.R_lower ho0 (below_size (by repeat (first | (with_reducible first | exact HB.out | apply below_alloc | apply pw_below_drewN | apply below_drew1) | exact HB.out)))); have n1_ := Aside0.mk (below_step (by repeat (first | (with_reducible first | exact HB.out | apply below_alloc | apply pw_below_drewN | apply below_drew1) | exact HB.out)) hb); clear HB; have HO411 := n0_; have HB := n1_; clear n0_ n1_; (try clear hb); (try clear hb2); (try clear hk); (try clear hi); (try clear ho0)))
              go_ret3
              exact ⟨_, by first | rfl | (simp [errW_none, errW_some] <;> rfl) | (simp [*, errW_none, errW_some] <;> rfl), by (with_reducible repeat (first | apply Kd.R_alloc | apply Kd.R_drewN | apply Kd.R_drew)); exact HO411.out, by repeat (first | (with_reducible first | exact HB.out | apply below_alloc | apply pw_below_drewN | apply below_drew1) | exact HB.out)⟩
             ·rw [if_neg c23] at H
              have c23b0 : (t409 == 0) = false := beq_eq_false_iff_ne.mpr c23
              have c23b1 : (t409 != 0) = true := bne_iff_ne.mpr c23
              simp only [Option.some.injEq, Prod.mk.injEq] at H
              obtain ⟨rfl, rfl, rfl⟩ := H
              obtain ⟨i026, hi026, _, hsz26, _⟩ := info_parts info5
              obtain ⟨A26, hcut26, hA26, hC26⟩ := print_mid_of (P := Try.prog) (Value.int .u8) 0 37 5 .i64 .u64 Try.underlying37 hi026 hsz26 A0 c0 l0 4 (IntKind.u64.wrap (4 + t405)) (by omega) (by first | omega | exact of_decide_eq_true (by first | (with_reducible assumption) | assumption)) (of_decide_eq_true (by first | (with_reducible assumption) | assumption)) HC0.out
              have HR407 := Aside0.mk (Kd.C_of_reads (h1 := fun _ => rfl) (hA26 _ (Kd.reads_of_C HR0.out)))
              have HC407 := Aside0.mk hC26
              clear hA26 hC26 hi026 hsz26
              go_wp2_with (first | ((with_reducible refine gate_callee (f := 27) rfl ?_); refine goesL_ (some 55) rfl rfl Try.func27 (by kernel_rfl) rfl #[.slice A26 ((l0.take ((IntKind.u64.wrap (4 + t405)) : Int).toNat).drop 4).length (c0 - 4), .int .i64 a1, .int .i64 a2] rfl (by (try simp only [List.map_toArray, List.map_cons, List.map_nil]); first | done | (rw [show ((l0.take ((IntKind.u64.wrap (4 + t405)) : Int).toNat).drop 4).length = ((IntKind.u64.wrap (4 + t405)).toNat - 4) from (by rw [List.length_drop, List.length_take]; have h_ : ((IntKind.u64.wrap (4 + t405)) : Int) ≤ (l0.length : Int) := of_decide_eq_true (by first | (with_reducible assumption) | assumption); omega)] <;> rfl) | rfl | (simp only [List.length_drop, List.length_take]; rfl)) ?_; (with_reducible refine (levels_Read.calls kj16 _ _ ((l0.take ((IntKind.u64.wrap (4 + t405)) : Int).toNat).drop 4) a1 a2 t408 t409 _ ?side1 ?side2 A22.out).mono ?_); (case side1 => repeat (first | exact (Kd.C_below HR407.out HB.out) | (with_reducible refine Kd.C_alloc ?_ _) | (with_reducible refine Kd.C_drewN ?_ _) | (with_reducible refine Kd.C_drew ?_))); (case side2 => exact HC407.out); rintro e w27 ⟨v410, rfl, ho0, hb⟩; refine ⟨_, rfl, ?_⟩; have n0_ := Aside0.mk (Kd.R_lower ho0 (below_size (by repeat (first | (with_reducible first | exact HB.out | apply below_alloc | apply pw_below_drewN | apply below_drew1) | exact HB.out)))); have n1_ := Aside0.mk (below_step (by repeat (first | (with_reducible first | exact HB.out | apply below_alloc | apply pw_below_drewN | apply below_drew1) | exact HB.out)) hb); clear HB; have HO411 := n0_; have HB := n1_; clear n0_ n1_; (try clear hb); (try clear hb2); (try clear hk); (try clear hi); (try clear ho0)))
              go_ret3
              exact ⟨_, by first | rfl | (simp [errW_none, errW_some] <;> rfl) | (simp [*, errW_none, errW_some] <;> rfl), by first | exact Kd.R_nil _ _ _ _ _ | exact Kd.N_nil _ _ _ _ _ | exact Kd.V_nil _ _ _ _ _ | exact Kd.Q_nil _ _ _ _ _ | exact Kd.S_nil _ _ _ _ _, by repeat (first | (with_reducible first | exact HB.out | apply below_alloc | apply pw_below_drewN | apply below_drew1) | exact HB.out)⟩
            ·rw [if_neg c21] at H
             exact absurd H (by simp)
           ·rw [if_neg c20] at H
            exact absurd H (by simp)

end Go.Proofs.Ytpibhiacmceekaa.X
