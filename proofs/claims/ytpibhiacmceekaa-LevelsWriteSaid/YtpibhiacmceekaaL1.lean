/- Layer 1, as the printed functions compute it: widths, bytes of numbers, and numbers of bytes, for the program and for the reference. -/
import Derived.Test.YtpibhiacmceekaaX5
import Derived.Test.YtpibhiacmceekaaX11
import Derived.Test.YtpibhiacmceekaaX6
import Derived.Test.YtpibhiacmceekaaX20
import Derived.Test.YtpibhiacmceekaaX22
import Derived.Test.YtpibhiacmceekaaNx
namespace Go.Proofs.Ytpibhiacmceekaa.L1
set_option linter.unusedVariables false
set_option linter.unusedSimpArgs false
open Go.RowKit Go.Proofs.Ytpibhiacmceekaa.X Go.Proofs.YtpibhiacmceekaaW.PrintWords Go.Proofs.YtpibhiacmceekaaW.PrintLast Go.Proofs.YtpibhiacmceekaaW.PrintMore Go.Proofs.Ytpibhiacmceekaa.Bx Go.Proofs.Ytpibhiacmceekaa.Nx

theorem wd_step {x : Int} (h : x > 0) : wd x.toNat = wd (x / 2).toNat + 1 := by
  rw [wd_pos (by omega)]; congr 2; omega
theorem ref_width_l : ∀ (k : Nat) (x y : Int), 0 ≤ x → x ≤ 18446744073709551615 → 0 ≤ y → y + wd x.toNat ≤ 4611686018427387904 → wd x.toNat < k → marquetryref01_Width.l0 k x y = some (y + wd x.toNat)
  | 0, _, _, _, _, _, _, h => absurd h (by omega)
  | k + 1, x, y, h0, h1, h2, h3, h => by
    simp only [marquetryref01_Width.l0]
    by_cases c : x > 0
    · have e := wd_step c
      rw [if_pos c, u64_tdiv 2 h0 h1 (by omega), w64 (by omega) (by omega), ref_width_l k (x / 2) (y + 1) (by omega) (by omega) (by omega) (by omega) (by omega), e]
      congr 1; omega
    · have e : x = 0 := by omega
      subst e
      rw [if_neg (by omega)]; simp [wd_zero]
theorem width_l : ∀ (k : Nat) (x y : Int), 0 ≤ x → x ≤ 18446744073709551615 → 0 ≤ y → y + wd x.toNat ≤ 4611686018427387904 → wd x.toNat < k → bits_Width.l0 k x y = some (y + wd x.toNat)
  | 0, _, _, _, _, _, _, h => absurd h (by omega)
  | k + 1, x, y, h0, h1, h2, h3, h => by
    simp only [bits_Width.l0]
    by_cases c : x > 0
    · have e := wd_step c
      rw [if_pos c, w64 (by omega) (by omega), width_l k (x / 2) (y + 1) (by omega) (by omega) (by omega) (by omega) (by omega), e]
      congr 1; omega
    · have e : x = 0 := by omega
      subst e
      rw [if_neg (by omega)]; simp [wd_zero]
theorem ref_width {k : Nat} {x : Int} (hk : 65 ≤ k) (h0 : 0 ≤ x) (h1 : x ≤ 18446744073709551615) : marquetryref01_Width.f k x = some (wd x.toNat : Int) := by
  have := wd_le64 x.toNat (by omega)
  unfold marquetryref01_Width.f
  rw [ref_width_l k x 0 h0 h1 (by omega) (by omega) (by omega)]; congr 1; omega
theorem width {k : Nat} {x : Int} (hk : 65 ≤ k) (h0 : 0 ≤ x) (h1 : x ≤ 18446744073709551615) : bits_Width.f k x = some (wd x.toNat : Int) := by
  have := wd_le64 x.toNat (by omega)
  unfold bits_Width.f
  rw [width_l k x 0 h0 h1 (by omega) (by omega) (by omega)]; congr 1; omega

/-! ### numbers as bytes -/
def LittleR (n m : Int) : List Int × Int := if m < 0 ∨ m > 8 ∨ (m < 8 ∧ n / 2 ^ (8 * m).toNat ≠ 0) then ([], 2) else (leb m.toNat n, 0)
theorem leb_step (m i x : Int) (acc : List Int) (h : i < m) : (acc ++ [x % 256]) ++ leb (m - (i + 1)).toNat (x / 256) = acc ++ leb (m - i).toNat x := by
  obtain ⟨d, hd⟩ : ∃ d, (m - i).toNat = d + 1 := ⟨(m - i).toNat - 1, by omega⟩
  rw [hd, show (m - (i + 1)).toNat = d by omega]
  simp [leb]
theorem little_l : ∀ (k : Nat) (x : Int) (acc : List Int) (m i : Int), 0 ≤ i → i ≤ m → m ≤ 8 → acc.length + (m - i).toNat < 140737488355328 → (m - i).toNat < k → bits_Little.l0 k x acc m i = some (acc ++ leb (m - i).toNat x, 0)
  | 0, _, _, _, _, _, _, _, _, h => absurd h (by omega)
  | k + 1, x, acc, m, i, h0, h1, h2, h3, h => by
    simp only [bits_Little.l0]
    by_cases c : i < m
    · rw [if_pos c, if_pos (by omega), w64 (by omega) (by omega), little_l k _ _ m (i + 1) (by omega) (by omega) h2 (by simp; omega) (by omega), leb_step m i x acc c]
    · rw [if_neg c, show (m - i).toNat = 0 by omega]; simp [leb]
theorem ref_little_l : ∀ (k : Nat) (x : Int) (acc : List Int) (m i : Int), 0 ≤ x → x ≤ 18446744073709551615 → 0 ≤ i → i ≤ m → m ≤ 8 → acc.length + (m - i).toNat < 140737488355328 → (m - i).toNat < k → marquetryref01_Little.l0 k x m acc i = some (acc ++ leb (m - i).toNat x, 0)
  | 0, _, _, _, _, _, _, _, _, _, _, h => absurd h (by omega)
  | k + 1, x, acc, m, i, hx, hx', h0, h1, h2, h3, h => by
    simp only [marquetryref01_Little.l0]
    by_cases c : i < m
    · rw [if_pos c, if_pos (by omega), w64 (by omega) (by omega), u64_tdiv 256 hx hx' (by omega), show Int.tmod x 256 = x % 256 from Int.tmod_eq_emod_of_nonneg hx, show x % 256 % 256 = x % 256 by omega,
        ref_little_l k _ _ m (i + 1) (by omega) (by omega) (by omega) (by omega) h2 (by simp; omega) (by omega), leb_step m i x acc c]
    · rw [if_neg c, show (m - i).toNat = 0 by omega]; simp [leb]
theorem little {k : Nat} {n m : Int} (hk : 12 ≤ k) (hm : -9223372036854775808 ≤ m) (hm' : m ≤ 9223372036854775807) : bits_Little.f k n m = some (LittleR n m) := by
  obtain ⟨k, rfl⟩ : ∃ j, k = j + 1 := ⟨k - 1, by omega⟩
  unfold bits_Little.f LittleR
  simp only [bits_Little.j0]
  by_cases c0 : m < 0
  · rw [if_pos c0, if_pos trivial, if_pos (by omega)]
  rw [if_neg c0]
  by_cases c1 : m > 8
  · rw [if_pos c1, if_pos trivial, if_pos (by omega)]
  rw [if_neg c1]
  by_cases c2 : m < 8
  · rw [if_pos c2, w64 (by omega) (by omega), if_pos (by omega)]
    have e : shr .u64 n (8 * m) = n / 2 ^ (8 * m).toNat := by
      unfold shr; rw [Nat.min_eq_left (by simp [IntKind.bits]; omega)]
    rw [e]
    by_cases c3 : n / 2 ^ (8 * m).toNat = 0
    · rw [c3]; simp only [bne_self_eq_false, Bool.false_eq_true, if_false]
      rw [little_l k n [] m 0 (by omega) (by omega) (by omega) (by simp; omega) (by omega), if_neg (by omega)]
      simp
    · rw [if_pos (by simpa using c3), if_pos (by omega)]
  · rw [if_neg c2]
    simp only [Bool.false_eq_true, if_false]
    rw [little_l k n [] m 0 (by omega) (by omega) (by omega) (by simp; omega) (by omega), if_neg (by omega)]
    simp
theorem wd_gt {n m : Int} (h0 : 0 ≤ n) (h1 : 0 ≤ m) : ((wd n.toNat : Int) > m) ↔ n / 2 ^ m.toNat ≠ 0 := by
  obtain ⟨a, rfl⟩ := Int.eq_ofNat_of_zero_le h0
  obtain ⟨b, rfl⟩ := Int.eq_ofNat_of_zero_le h1
  have := wd_le b a
  have e : ((a : Int) / 2 ^ (b : Int).toNat) = ((a / 2 ^ b : Nat) : Int) := by simp
  rw [e]
  have hp := Nat.two_pow_pos b
  have := @Nat.div_eq_zero_iff_lt (2 ^ b) a hp
  constructor
  · intro h; simp at h; omega
  · intro h; simp; omega
theorem ref_little {k : Nat} {n m : Int} (hk : 66 ≤ k) (h0 : 0 ≤ n) (h1 : n ≤ 18446744073709551615) (hm : -9223372036854775808 ≤ m) (hm' : m ≤ 9223372036854775807) : marquetryref01_Little.f k n m = some (LittleR n m) := by
  obtain ⟨k, rfl⟩ : ∃ j, k = j + 1 := ⟨k - 1, by omega⟩
  unfold marquetryref01_Little.f LittleR
  simp only [marquetryref01_Little.j0]
  by_cases c0 : m < 0
  · rw [if_pos c0, if_pos trivial, if_pos (by omega)]
  rw [if_neg c0]
  by_cases c1 : m > 8
  · rw [if_pos c1, if_pos trivial, if_pos (by omega)]
  rw [if_neg c1, ref_width (by omega) h0 h1, Option.bind_some, w64 (by omega) (by omega)]
  have hw := wd_le64 n.toNat (by omega)
  have g := wd_gt h0 (show 0 ≤ 8 * m by omega)
  by_cases c3 : (wd n.toNat : Int) > 8 * m
  · have c4 := g.1 c3
    rw [if_pos (by simpa using c3), if_pos (by omega)]
  · have c4 : n / 2 ^ (8 * m).toNat = 0 := by
      by_cases q : n / 2 ^ (8 * m).toNat = 0
      · exact q
      · exact absurd (g.2 q) c3
    rw [if_neg (by simpa using c3), ref_little_l k n [] m 0 h0 h1 (by omega) (by omega) (by omega) (by simp; omega) (by omega), if_neg (by omega)]
    simp

/-! ### numbers of bytes -/
def ReadLittleR (b : List Int) (a m : Int) : Int × Int := if m < 0 ∨ m > 8 ∨ a < 0 ∨ a > b.length then (0, 2) else if m > b.length - a then (0, 6) else (leS (win b a.toNat m.toNat), 0)
theorem getD_range {b : List Int} (hb : ∀ x ∈ b, 0 ≤ x ∧ x ≤ 255) (i : Nat) : 0 ≤ b.getD i 0 ∧ b.getD i 0 ≤ 255 := by
  rw [List.getD_eq_getElem?_getD]
  by_cases h : i < b.length
  · rw [List.getElem?_eq_getElem h]; exact hb _ (List.getElem_mem h)
  · rw [List.getElem?_eq_none (by omega)]; simp
theorem leS_win_lt {b : List Int} (hb : ∀ x ∈ b, 0 ≤ x ∧ x ≤ 255) {a m : Nat} (h : a + m ≤ b.length) : 0 ≤ leS (win b a m) ∧ leS (win b a m) < 256 ^ m := by
  have h1 := leS_nonneg (win b a m) (fun x hx => hb x (win_mem hx))
  have h2 := leS_lt (win b a m) (fun x hx => hb x (win_mem hx))
  rw [win_length h] at h2
  exact ⟨h1, h2⟩
theorem pow256 (i : Nat) : (256 : Int) ^ i = 2 ^ (8 * i) := by rw [Int.pow_mul]; rfl
theorem pow256_le {i j : Nat} (h : i ≤ j) : (256 : Int) ^ i ≤ 256 ^ j := by
  have h2 : ((256 ^ i : Nat) : Int) ≤ ((256 ^ j : Nat) : Int) := Int.ofNat_le.2 (Nat.pow_le_pow_right (by decide) h)
  rw [Int.natCast_pow, Int.natCast_pow] at h2
  exact h2
theorem read_step {b : List Int} (hb : ∀ x ∈ b, 0 ≤ x ∧ x ≤ 255) (a i : Nat) (h : a + i < b.length) (hi : i < 8) :
    bits .or .u64 (leS (win b a i)) (shl .u64 (IntKind.u64.wrap (b.getD (a + i) 0)) (8 * i : Nat)) = leS (win b a (i + 1)) := by
  obtain ⟨h1, h2⟩ := leS_win_lt hb (show a + i ≤ b.length by omega)
  obtain ⟨r1, r2⟩ := getD_range hb (a + i)
  have hp : (256 : Int) ^ (i + 1) ≤ 256 ^ 8 := pow256_le (by omega)
  have h8 : (256 : Int) ^ 8 = 18446744073709551616 := by decide
  have hs : b.getD (a + i) 0 * 256 ^ i < 256 ^ (i + 1) := by
    rw [Int.pow_succ, Int.mul_comm]
    exact Int.mul_lt_mul_of_pos_left (by omega) (Int.pow_pos (by decide))
  have hs0 : 0 ≤ b.getD (a + i) 0 * 256 ^ i := Int.mul_nonneg r1 (Int.le_of_lt (Int.pow_pos (by decide)))
  have e : shl .u64 (IntKind.u64.wrap (b.getD (a + i) 0)) (8 * i : Nat) = b.getD (a + i) 0 * 256 ^ i := by
    unfold shl
    rw [u64w, u64w, Int.emod_eq_of_lt r1 (by omega), Nat.min_eq_left (by simp [IntKind.bits]; omega), show ((8 * i : Nat) : Int).toNat = 8 * i by omega, ← pow256]
    exact Int.emod_eq_of_lt hs0 (by omega)
  rw [e, win_snoc h, leS_snoc, win_length (by omega), or_low_high (8 * i) _ _ h1 (by rw [← pow256]; exact h2) hs0 (by rw [← pow256]; exact Int.mul_emod_left _ _) (by omega) (by have := pow256_le (show i ≤ 8 by omega); omega), Int.mul_comm]
theorem read_l : ∀ (k : Nat) (b : List Int) (a m i : Int), (∀ x ∈ b, 0 ≤ x ∧ x ≤ 255) → b.length ≤ 9223372036854775000 → 0 ≤ a → 0 ≤ i → i ≤ m → m ≤ 8 → a + m ≤ b.length → (m - i).toNat < k →
    bits_ReadLittle.l0 k b a (leS (win b a.toNat i.toNat)) m i = some (leS (win b a.toNat m.toNat), 0)
  | 0, _, _, _, _, _, _, _, _, _, _, _, h => absurd h (by omega)
  | k + 1, b, a, m, i, hb, hl, h0, h1, h2, h3, h4, h => by
    simp only [bits_ReadLittle.l0]
    by_cases c : i < m
    · rw [if_pos c, w64 (by omega) (by omega), if_pos (by omega), if_pos (by omega), w64 (by omega) (by omega), if_pos (by omega), w64 (by omega) (by omega)]
      have e := read_step hb a.toNat i.toNat (by omega) (by omega)
      rw [show ((8 * i.toNat : Nat) : Int) = 8 * i by omega] at e
      have e2 : rd b (a + i) = b.getD (a.toNat + i.toNat) 0 := by unfold rd; congr 1; omega
      rw [e2, e, show i.toNat + 1 = (i + 1).toNat by omega]
      exact read_l k b a m (i + 1) hb hl h0 (by omega) (by omega) h3 h4 (by omega)
    · rw [if_neg c, show i = m by omega]
theorem readLittle {k : Nat} {b : List Int} {a m : Int} (hk : 12 ≤ k) (hb : ∀ x ∈ b, 0 ≤ x ∧ x ≤ 255) (hl : b.length ≤ 9223372036854775000) (ha : a ≤ 9223372036854775807) : bits_ReadLittle.f k b a m = some (ReadLittleR b a m) := by
  obtain ⟨k, rfl⟩ : ∃ j, k = j + 1 := ⟨k - 1, by omega⟩
  unfold bits_ReadLittle.f ReadLittleR
  simp only [bits_ReadLittle.j0]
  by_cases c0 : m < 0
  · rw [if_pos c0, if_pos trivial, if_pos (by omega)]
  rw [if_neg c0]
  by_cases c1 : m > 8
  · rw [if_pos c1, if_pos trivial, if_pos (by omega)]
  rw [if_neg c1]
  by_cases c2 : a < 0
  · rw [if_pos c2, if_pos trivial, if_pos (by omega)]
  rw [if_neg c2]
  by_cases c3 : a > (b.length : Int)
  · rw [if_pos (by simpa using c3), if_pos (by omega)]
  rw [if_neg (by simpa using c3), w64 (by omega) (by omega)]
  by_cases c4 : m > (b.length : Int) - a
  · rw [if_pos c4, if_neg (by omega), if_pos c4]
  rw [if_neg c4, if_neg (by omega), if_neg c4]
  have := read_l k b a m 0 hb hl (by omega) (by omega) (by omega) (by omega) (by omega) (by omega)
  rwa [show (0 : Int).toNat = 0 from rfl, win_zero] at this
theorem ref_read_l : ∀ (k : Nat) (b : List Int) (a m i : Int), (∀ x ∈ b, 0 ≤ x ∧ x ≤ 255) → b.length ≤ 9223372036854775000 → 0 ≤ a → -1 ≤ i → i < m → m ≤ 8 → a + m ≤ b.length → (i + 1).toNat < k →
    marquetryref01_ReadLittle.l0 k b a (leS (win b (a + i + 1).toNat (m - i - 1).toNat)) i = some (leS (win b a.toNat m.toNat), 0)
  | 0, _, _, _, _, _, _, _, _, _, _, _, h => absurd h (by omega)
  | k + 1, b, a, m, i, hb, hl, h0, h1, h2, h3, h4, h => by
    simp only [marquetryref01_ReadLittle.l0]
    by_cases c : i ≥ 0
    · rw [if_pos c, w64 (by omega) (by omega), if_pos (by omega), if_pos (by omega), w64 (by omega) (by omega)]
      obtain ⟨r1, r2⟩ := getD_range hb (a + i).toNat
      obtain ⟨q1, q2⟩ := leS_win_lt hb (show (a + i + 1).toNat + (m - i - 1).toNat ≤ b.length by omega)
      have e := win_cons (l := b) (a := (a + i).toNat) (m := (m - i - 1).toNat) (by omega)
      have e2 : rd b (a + i) = b.getD (a + i).toNat 0 := rfl
      have hp := pow256_le (show (m - i - 1).toNat ≤ 7 by omega)
      have h7 : (256 : Int) ^ 7 = 72057594037927936 := by decide
      have e3 : IntKind.u64.wrap ((IntKind.u64.wrap (leS (win b (a + i + 1).toNat (m - i - 1).toNat) * 256)) + (IntKind.u64.wrap (rd b (a + i)))) = leS (win b (a + (i - 1) + 1).toNat (m - (i - 1) - 1).toNat) := by
        rw [show (a + (i - 1) + 1).toNat = (a + i).toNat by omega, show (m - (i - 1) - 1).toNat = (m - i - 1).toNat + 1 by omega, e, leS, u64w, u64w, u64w, e2, show (a + i).toNat + 1 = (a + i + 1).toNat by omega]
        omega
      rw [e3]
      exact ref_read_l k b a m (i - 1) hb hl h0 (by omega) (by omega) h3 h4 (by omega)
    · rw [if_neg c, show i = -1 by omega]
      rw [show (a + -1 + 1).toNat = a.toNat by omega, show (m - -1 - 1).toNat = m.toNat by omega]
theorem ref_readLittle {k : Nat} {b : List Int} {a m : Int} (hk : 12 ≤ k) (hb : ∀ x ∈ b, 0 ≤ x ∧ x ≤ 255) (hl : b.length ≤ 9223372036854775000) (ha : a ≤ 9223372036854775807) : marquetryref01_ReadLittle.f k b a m = some (ReadLittleR b a m) := by
  obtain ⟨k, rfl⟩ : ∃ j, k = j + 1 := ⟨k - 1, by omega⟩
  unfold marquetryref01_ReadLittle.f ReadLittleR
  simp only [marquetryref01_ReadLittle.j0]
  by_cases c0 : m < 0
  · rw [if_pos c0, if_pos trivial, if_pos (by omega)]
  rw [if_neg c0]
  by_cases c1 : m > 8
  · rw [if_pos c1, if_pos trivial, if_pos (by omega)]
  rw [if_neg c1]
  by_cases c2 : a < 0
  · rw [if_pos c2, if_pos trivial, if_pos (by omega)]
  rw [if_neg c2]
  by_cases c3 : a > (b.length : Int)
  · rw [if_pos (by simpa using c3), if_pos (by omega)]
  rw [if_neg (by simpa using c3), w64 (by omega) (by omega)]
  by_cases c4 : m > (b.length : Int) - a
  · rw [if_pos c4, if_neg (by omega), if_pos c4]
  rw [if_neg c4, if_neg (by omega), if_neg c4, w64 (by omega) (by omega)]
  have := ref_read_l k b a m (m - 1) hb hl (by omega) (by omega) (by omega) (by omega) (by omega) (by omega)
  rwa [show (m - (m - 1) - 1).toNat = 0 by omega, win_zero] at this
end Go.Proofs.Ytpibhiacmceekaa.L1
