/- PlainRead: texts of this seat in one (wip/merge.py): L1, Px, L1p, L1u, L10, Rd. -/
import Derived.Test.YtcklkngljapecaaGPlainRead2
import Derived.Test.YtcklkngljapecaaGPlainRead1
import Derived.Test.YtcklkngljapecaaGPlainRead0
import Derived.Deep.Slices
import Derived.Lib.SmallJoins
import Derived.SizedLaws
section
namespace Go.Proofs.Ytcklkngljapecaa.L1
set_option linter.unusedVariables false
set_option linter.unusedSimpArgs false
open Go.RowKit Go.Proofs.Ytcklkngljapecaa.X Go.Proofs.YtcklkngljapecaaW.PrintWords Go.Proofs.YtcklkngljapecaaW.PrintLast Go.Proofs.YtcklkngljapecaaW.PrintMore Go.Proofs.Ytcklkngljapecaa.Bx Go.Proofs.Ytcklkngljapecaa.Nx
theorem wd_step {x : Int} (h : x > 0) : wd x.toNat = wd (x / 2).toNat + 1 := by
  rw [wd_pos (by omega)]; congr 2; omega
theorem width_l : ∀ (k : Nat) (x y : Int), 0 ≤ x → x ≤ 18446744073709551615 → 0 ≤ y → y + wd x.toNat ≤ 4611686018427387904 → wd x.toNat < k → bits_Width.l0 k x y = some (y + wd x.toNat)
  | 0, _, _, _, _, _, _, h => absurd h (by omega)
  | k + 1, x, y, h0, h1, h2, h3, h => by
    simp only [bits_Width.l0]
    by_cases c : x > 0
    · have e := wd_step c
      rw [if_pos c, w64 (by omega) (by omega), width_l k (x / 2) (y + 1) (by omega) (by omega) (by omega) (by omega) (by omega), e]
      congr 1; omega
    · have e : x = 0 := by omega
      subst e
      rw [if_neg (by omega)]; simp [wd_zero]
theorem width {k : Nat} {x : Int} (hk : 65 ≤ k) (h0 : 0 ≤ x) (h1 : x ≤ 18446744073709551615) : bits_Width.f k x = some (wd x.toNat : Int) := by
  have := wd_le64 x.toNat (by omega)
  unfold bits_Width.f
  rw [width_l k x 0 h0 h1 (by omega) (by omega) (by omega)]; congr 1; omega
def ReadLittleR (b : List Int) (a m : Int) : Int × Int := if m < 0 ∨ m > 8 ∨ a < 0 ∨ a > b.length then (0, 2) else if m > b.length - a then (0, 6) else (leS (win b a.toNat m.toNat), 0)
theorem getD_range {b : List Int} (hb : ∀ x ∈ b, 0 ≤ x ∧ x ≤ 255) (i : Nat) : 0 ≤ b.getD i 0 ∧ b.getD i 0 ≤ 255 := by
  rw [List.getD_eq_getElem?_getD]
  by_cases h : i < b.length
  · rw [List.getElem?_eq_getElem h]; exact hb _ (List.getElem_mem h)
  · rw [List.getElem?_eq_none (by omega)]; simp
theorem leS_win_lt {b : List Int} (hb : ∀ x ∈ b, 0 ≤ x ∧ x ≤ 255) {a m : Nat} (h : a + m ≤ b.length) : 0 ≤ leS (win b a m) ∧ leS (win b a m) < 256 ^ m := by
  have h1 := leS_nonneg (win b a m) (fun x hx => hb x (win_mem hx))
  have h2 := leS_lt (win b a m) (fun x hx => hb x (win_mem hx))
  rw [win_length h] at h2
  exact ⟨h1, h2⟩
theorem pow256 (i : Nat) : (256 : Int) ^ i = 2 ^ (8 * i) := by rw [Int.pow_mul]; rfl
theorem pow256_le {i j : Nat} (h : i ≤ j) : (256 : Int) ^ i ≤ 256 ^ j := by
  have h2 : ((256 ^ i : Nat) : Int) ≤ ((256 ^ j : Nat) : Int) := Int.ofNat_le.2 (Nat.pow_le_pow_right (by decide) h)
  rw [Int.natCast_pow, Int.natCast_pow] at h2
  exact h2
theorem read_step {b : List Int} (hb : ∀ x ∈ b, 0 ≤ x ∧ x ≤ 255) (a i : Nat) (h : a + i < b.length) (hi : i < 8) :
    bits .or .u64 (leS (win b a i)) (shl .u64 (IntKind.u64.wrap (b.getD (a + i) 0)) (8 * i : Nat)) = leS (win b a (i + 1)) := by
  obtain ⟨h1, h2⟩ := leS_win_lt hb (show a + i ≤ b.length by omega)
  obtain ⟨r1, r2⟩ := getD_range hb (a + i)
  have hp : (256 : Int) ^ (i + 1) ≤ 256 ^ 8 := pow256_le (by omega)
  have h8 : (256 : Int) ^ 8 = 18446744073709551616 := by decide
  have hs : b.getD (a + i) 0 * 256 ^ i < 256 ^ (i + 1) := by
    rw [Int.pow_succ, Int.mul_comm]
    exact Int.mul_lt_mul_of_pos_left (by omega) (Int.pow_pos (by decide))
  have hs0 : 0 ≤ b.getD (a + i) 0 * 256 ^ i := Int.mul_nonneg r1 (Int.le_of_lt (Int.pow_pos (by decide)))
  have e : shl .u64 (IntKind.u64.wrap (b.getD (a + i) 0)) (8 * i : Nat) = b.getD (a + i) 0 * 256 ^ i := by
    unfold shl
    rw [u64w, u64w, Int.emod_eq_of_lt r1 (by omega), Nat.min_eq_left (by simp [IntKind.bits]; omega), show ((8 * i : Nat) : Int).toNat = 8 * i by omega, ← pow256]
    exact Int.emod_eq_of_lt hs0 (by omega)
  rw [e, win_snoc h, leS_snoc, win_length (by omega), or_low_high (8 * i) _ _ h1 (by rw [← pow256]; exact h2) hs0 (by rw [← pow256]; exact Int.mul_emod_left _ _) (by omega) (by have := pow256_le (show i ≤ 8 by omega); omega), Int.mul_comm]
theorem read_l : ∀ (k : Nat) (b : List Int) (a m i : Int), (∀ x ∈ b, 0 ≤ x ∧ x ≤ 255) → b.length ≤ 9223372036854775000 → 0 ≤ a → 0 ≤ i → i ≤ m → m ≤ 8 → a + m ≤ b.length → (m - i).toNat < k →
    bits_ReadLittle.l0 k b a (leS (win b a.toNat i.toNat)) m i = some (leS (win b a.toNat m.toNat), 0)
  | 0, _, _, _, _, _, _, _, _, _, _, _, h => absurd h (by omega)
  | k + 1, b, a, m, i, hb, hl, h0, h1, h2, h3, h4, h => by
    simp only [bits_ReadLittle.l0]
    by_cases c : i < m
    · rw [if_pos c, w64 (by omega) (by omega), if_pos (by omega), if_pos (by omega), w64 (by omega) (by omega), if_pos (by omega), w64 (by omega) (by omega)]
      have e := read_step hb a.toNat i.toNat (by omega) (by omega)
      rw [show ((8 * i.toNat : Nat) : Int) = 8 * i by omega] at e
      have e2 : rd b (a + i) = b.getD (a.toNat + i.toNat) 0 := by unfold rd; congr 1; omega
      rw [e2, e, show i.toNat + 1 = (i + 1).toNat by omega]
      exact read_l k b a m (i + 1) hb hl h0 (by omega) (by omega) h3 h4 (by omega)
    · rw [if_neg c, show i = m by omega]
theorem readLittle {k : Nat} {b : List Int} {a m : Int} (hk : 12 ≤ k) (hb : ∀ x ∈ b, 0 ≤ x ∧ x ≤ 255) (hl : b.length ≤ 9223372036854775000) (ha : a ≤ 9223372036854775807) : bits_ReadLittle.f k b a m = some (ReadLittleR b a m) := by
  obtain ⟨k, rfl⟩ : ∃ j, k = j + 1 := ⟨k - 1, by omega⟩
  unfold bits_ReadLittle.f ReadLittleR
  simp only [bits_ReadLittle.j0]
  by_cases c0 : m < 0
  · rw [if_pos c0, if_pos trivial, if_pos (by omega)]
  rw [if_neg c0]
  by_cases c1 : m > 8
  · rw [if_pos c1, if_pos trivial, if_pos (by omega)]
  rw [if_neg c1]
  by_cases c2 : a < 0
  · rw [if_pos c2, if_pos trivial, if_pos (by omega)]
  rw [if_neg c2]
  by_cases c3 : a > (b.length : Int)
  · rw [if_pos (by simpa using c3), if_pos (by omega)]
  rw [if_neg (by simpa using c3), w64 (by omega) (by omega)]
  by_cases c4 : m > (b.length : Int) - a
  · rw [if_pos c4, if_neg (by omega), if_pos c4]
  rw [if_neg c4, if_neg (by omega), if_neg c4]
  have := read_l k b a m 0 hb hl (by omega) (by omega) (by omega) (by omega) (by omega) (by omega)
  rwa [show (0 : Int).toNat = 0 from rfl, win_zero] at this
theorem ref_read_l : ∀ (k : Nat) (b : List Int) (a m i : Int), (∀ x ∈ b, 0 ≤ x ∧ x ≤ 255) → b.length ≤ 9223372036854775000 → 0 ≤ a → -1 ≤ i → i < m → m ≤ 8 → a + m ≤ b.length → (i + 1).toNat < k →
    marquetryref01_ReadLittle.l0 k b a (leS (win b (a + i + 1).toNat (m - i - 1).toNat)) i = some (leS (win b a.toNat m.toNat), 0)
  | 0, _, _, _, _, _, _, _, _, _, _, _, h => absurd h (by omega)
  | k + 1, b, a, m, i, hb, hl, h0, h1, h2, h3, h4, h => by
    simp only [marquetryref01_ReadLittle.l0]
    by_cases c : i ≥ 0
    · rw [if_pos c, w64 (by omega) (by omega), if_pos (by omega), if_pos (by omega), w64 (by omega) (by omega)]
      obtain ⟨r1, r2⟩ := getD_range hb (a + i).toNat
      obtain ⟨q1, q2⟩ := leS_win_lt hb (show (a + i + 1).toNat + (m - i - 1).toNat ≤ b.length by omega)
      have e := win_cons (l := b) (a := (a + i).toNat) (m := (m - i - 1).toNat) (by omega)
      have e2 : rd b (a + i) = b.getD (a + i).toNat 0 := rfl
      have hp := pow256_le (show (m - i - 1).toNat ≤ 7 by omega)
      have h7 : (256 : Int) ^ 7 = 72057594037927936 := by decide
      have e3 : IntKind.u64.wrap ((IntKind.u64.wrap (leS (win b (a + i + 1).toNat (m - i - 1).toNat) * 256)) + (IntKind.u64.wrap (rd b (a + i)))) = leS (win b (a + (i - 1) + 1).toNat (m - (i - 1) - 1).toNat) := by
        rw [show (a + (i - 1) + 1).toNat = (a + i).toNat by omega, show (m - (i - 1) - 1).toNat = (m - i - 1).toNat + 1 by omega, e, leS, u64w, u64w, u64w, e2, show (a + i).toNat + 1 = (a + i + 1).toNat by omega]
        omega
      rw [e3]
      exact ref_read_l k b a m (i - 1) hb hl h0 (by omega) (by omega) h3 h4 (by omega)
    · rw [if_neg c, show i = -1 by omega]
      rw [show (a + -1 + 1).toNat = a.toNat by omega, show (m - -1 - 1).toNat = m.toNat by omega]
theorem ref_readLittle {k : Nat} {b : List Int} {a m : Int} (hk : 12 ≤ k) (hb : ∀ x ∈ b, 0 ≤ x ∧ x ≤ 255) (hl : b.length ≤ 9223372036854775000) (ha : a ≤ 9223372036854775807) : marquetryref01_ReadLittle.f k b a m = some (ReadLittleR b a m) := by
  obtain ⟨k, rfl⟩ : ∃ j, k = j + 1 := ⟨k - 1, by omega⟩
  unfold marquetryref01_ReadLittle.f ReadLittleR
  simp only [marquetryref01_ReadLittle.j0]
  by_cases c0 : m < 0
  · rw [if_pos c0, if_pos trivial, if_pos (by omega)]
  rw [if_neg c0]
  by_cases c1 : m > 8
  · rw [if_pos c1, if_pos trivial, if_pos (by omega)]
  rw [if_neg c1]
  by_cases c2 : a < 0
  · rw [if_pos c2, if_pos trivial, if_pos (by omega)]
  rw [if_neg c2]
  by_cases c3 : a > (b.length : Int)
  · rw [if_pos (by simpa using c3), if_pos (by omega)]
  rw [if_neg (by simpa using c3), w64 (by omega) (by omega)]
  by_cases c4 : m > (b.length : Int) - a
  · rw [if_pos c4, if_neg (by omega), if_pos c4]
  rw [if_neg c4, if_neg (by omega), if_neg c4, w64 (by omega) (by omega)]
  have := ref_read_l k b a m (m - 1) hb hl (by omega) (by omega) (by omega) (by omega) (by omega) (by omega)
  rwa [show (m - (m - 1) - 1).toNat = 0 by omega, win_zero] at this
end Go.Proofs.Ytcklkngljapecaa.L1
end

section
namespace Go.Proofs.Ytcklkngljapecaa.Px
set_option linter.unusedVariables false
set_option linter.unusedSimpArgs false
open Go.RowKit Go.Proofs.Ytcklkngljapecaa.Bx Go.Proofs.Ytcklkngljapecaa.Nx
def byteAt (B : List Int) (j : Nat) : Int :=
  B.getD (8 * j) 0 + 2 * B.getD (8 * j + 1) 0 + 4 * B.getD (8 * j + 2) 0 + 8 * B.getD (8 * j + 3) 0 + 16 * B.getD (8 * j + 4) 0 + 32 * B.getD (8 * j + 5) 0 + 64 * B.getD (8 * j + 6) 0 + 128 * B.getD (8 * j + 7) 0
theorem getD_snoc (B : List Int) (b : Int) (m : Nat) : (B ++ [b]).getD m 0 = if m = B.length then b else B.getD m 0 := by
  simp only [List.getD_eq_getElem?_getD]
  by_cases h : m = B.length
  · subst h; simp
  · rw [if_neg h]
    rcases Nat.lt_or_ge m B.length with h1 | h1
    · rw [List.getElem?_append_left h1]
    · rw [List.getElem?_append_right h1, List.getElem?_eq_none (by simp; omega), List.getElem?_eq_none h1]
theorem getD_out (B : List Int) {m : Nat} (h : B.length ≤ m) : B.getD m 0 = 0 := by
  rw [List.getD_eq_getElem?_getD, List.getElem?_eq_none h]; rfl
theorem byteAt_snoc (B : List Int) (b : Int) (j : Nat) : byteAt (B ++ [b]) j = byteAt B j + if j = B.length / 8 then b * 2 ^ (B.length % 8) else 0 := by
  unfold byteAt
  simp only [getD_snoc]
  by_cases h : j = B.length / 8
  · rw [if_pos h]
    have q : ∀ t, (8 * j + t = B.length) = (t = B.length % 8) := fun t => propext (by omega)
    have q0 : (8 * j = B.length) = (0 = B.length % 8) := propext (by omega)
    have o := fun m => getD_out B (m := m)
    have o0 := o (8 * j); have o1 := o (8 * j + 1); have o2 := o (8 * j + 2); have o3 := o (8 * j + 3); have o4 := o (8 * j + 4); have o5 := o (8 * j + 5); have o6 := o (8 * j + 6); have o7 := o (8 * j + 7)
    have hr : B.length % 8 = 0 ∨ B.length % 8 = 1 ∨ B.length % 8 = 2 ∨ B.length % 8 = 3 ∨ B.length % 8 = 4 ∨ B.length % 8 = 5 ∨ B.length % 8 = 6 ∨ B.length % 8 = 7 := by omega
    simp only [q, q0]
    rcases hr with e | e | e | e | e | e | e | e <;> rw [e] <;> simp (config := { decide := true }) only [if_true, if_false, Int.reducePow, Int.pow_zero] <;> omega
  · rw [if_neg h]
    have : ∀ t, t < 8 → 8 * j + t ≠ B.length := by omega
    rw [if_neg (by simpa using this 0 (by omega)), if_neg (this 1 (by omega)), if_neg (this 2 (by omega)), if_neg (this 3 (by omega)), if_neg (this 4 (by omega)), if_neg (this 5 (by omega)), if_neg (this 6 (by omega)), if_neg (this 7 (by omega))]
    omega
theorem map_set (B : List Int) (b : Int) (n : Nat) (h : B.length / 8 < n) :
    ((List.range n).map (byteAt B)).set (B.length / 8) (byteAt B (B.length / 8) + b * 2 ^ (B.length % 8)) = (List.range n).map (byteAt (B ++ [b])) := by
  apply List.ext_getElem?
  intro j
  rw [List.getElem?_set]
  by_cases e : B.length / 8 = j
  · subst e
    simp [h, byteAt_snoc]
  · rw [if_neg e]
    simp only [List.getElem?_map]
    rcases Nat.lt_or_ge j n with hj | hj
    · rw [List.getElem?_range hj]
      simp only [Option.map_some, byteAt_snoc]; rw [if_neg (fun h : j = B.length / 8 => e h.symm)]; simp
    · rw [List.getElem?_eq_none (by simpa using hj)]; rfl
end Go.Proofs.Ytcklkngljapecaa.Px
end

section
namespace Go.Proofs.Ytcklkngljapecaa.L1
set_option linter.unusedVariables false
set_option linter.unusedSimpArgs false
open Go.RowKit Go.Proofs.Ytcklkngljapecaa.X Go.Proofs.YtcklkngljapecaaW.PrintWords Go.Proofs.YtcklkngljapecaaW.PrintLast Go.Proofs.YtcklkngljapecaaW.PrintMore Go.Proofs.Ytcklkngljapecaa.Bx Go.Proofs.Ytcklkngljapecaa.Nx Go.Proofs.Ytcklkngljapecaa.Px
def SizeR (w n : Int) : Int × Int := if w < 0 ∨ w > 64 ∨ n < 0 then (0, 2) else if n > 1048576 ∨ (n * w + 7) / 8 > 1048576 then (0, 3) else ((n * w + 7) / 8, 0)
theorem size_j (k : Nat) (w n : Int) (hw : 0 ≤ w) (hw1 : w ≤ 64) (hn : 0 ≤ n) : bits_Size.j0 (k + 1) w n false = some (SizeR w n) := by
  simp only [bits_Size.j0, Bool.false_eq_true, if_false]
  unfold SizeR
  rw [if_neg (by omega : ¬ (w < 0 ∨ w > 64 ∨ n < 0))]
  by_cases c : n > 1048576
  · rw [if_pos c, if_pos (.inl c)]
  · have h1 : 0 ≤ n * w := Int.mul_nonneg hn hw
    have h2 : n * w ≤ 1048576 * 64 := Int.mul_le_mul (by omega) hw1 hw (by omega)
    have a1 : wrap64 (n * w) = n * w := w64 (by omega) (by omega)
    have a2 : wrap64 (n * w + 7) = n * w + 7 := w64 (by omega) (by omega)
    have a3 : wrap64 (Int.tdiv (n * w + 7) 8) = (n * w + 7) / 8 := by rw [Int.tdiv_eq_ediv_of_nonneg (by omega)]; exact w64 (by omega) (by omega)
    rw [if_neg c, a1, a2, a3]
    by_cases d : (n * w + 7) / 8 > 1048576
    · rw [if_pos d, if_pos (.inr d)]
    · rw [if_neg d, if_neg (by omega)]
theorem size {k : Nat} {w n : Int} (hk : 1 ≤ k) : bits_Size.f k w n = some (SizeR w n) := by
  obtain ⟨k, rfl⟩ : ∃ j, k = j + 1 := ⟨k - 1, by omega⟩
  unfold bits_Size.f
  by_cases c0 : w < 0
  · rw [if_pos c0]; simp [bits_Size.j0, SizeR, c0]
  rw [if_neg c0]
  by_cases c1 : w > 64
  · rw [if_pos c1]; simp [bits_Size.j0, SizeR]; omega
  rw [if_neg c1]
  by_cases c2 : n < 0
  · rw [decide_eq_true c2]; simp [bits_Size.j0, SizeR]; omega
  · rw [decide_eq_false c2]; exact size_j k w n (by omega) (by omega) (by omega)
theorem ref_size_same (k : Nat) (w n : Int) : marquetryref01_Size.f k w n = bits_Size.f k w n := by
  have j : ∀ k x y z, marquetryref01_Size.j0 k x y z = bits_Size.j0 k x y z := by
    intro k; cases k <;> intros <;> rfl
  unfold bits_Size.f marquetryref01_Size.f; simp only [j]
theorem ref_size {k : Nat} {w n : Int} (hk : 1 ≤ k) : marquetryref01_Size.f k w n = some (SizeR w n) := by rw [ref_size_same, size hk]
theorem SizeR_ok {w n : Int} (h : (SizeR w n).2 = 0) : 0 ≤ w ∧ w ≤ 64 ∧ 0 ≤ n ∧ n ≤ 1048576 ∧ (SizeR w n).1 = (n * w + 7) / 8 ∧ (n * w + 7) / 8 ≤ 1048576 := by
  unfold SizeR at h ⊢
  split at h
  · simp at h
  · rename_i h1
    rw [if_neg h1]
    split at h
    · simp at h
    · rename_i h2
      rw [if_neg h2]
      exact ⟨by omega, by omega, by omega, by omega, rfl, by omega⟩
theorem w64n {n : Nat} (h : n ≤ 1000000000) : wrap64 (n : Int) = n := by unfold wrap64; omega
theorem div_pow {x y : Int} {c : Nat} (hx : x = y / 2 ^ c) : x / 2 = y / 2 ^ (c + 1) := by
  have hp : (0 : Int) ≤ 2 ^ c := Int.le_of_lt (Int.pow_pos (by decide))
  rw [hx, Int.pow_succ, Int.ediv_ediv_of_nonneg hp]
theorem w64d {n : Nat} (h : n ≤ 1000000000) : wrap64 (Int.tdiv (n : Int) 8) = ((n / 8 : Nat) : Int) := by rw [Int.tdiv_eq_ediv_of_nonneg (by omega)]; unfold wrap64; omega
theorem tmod8 {n : Nat} : Int.tmod (n : Int) 8 = ((n % 8 : Nat) : Int) := by rw [Int.tmod_eq_emod_of_nonneg (by omega)]; omega
theorem w64s {n : Nat} (h : n + 1 ≤ 1000000000) : wrap64 ((n : Int) + 1) = ((n + 1 : Nat) : Int) := by unfold wrap64; omega
end Go.Proofs.Ytcklkngljapecaa.L1
end

section
namespace Go.Proofs.Ytcklkngljapecaa.L1
set_option linter.unusedVariables false
set_option linter.unusedSimpArgs false
open Go.RowKit Go.Proofs.Ytcklkngljapecaa.X Go.Proofs.YtcklkngljapecaaW.PrintWords Go.Proofs.YtcklkngljapecaaW.PrintLast Go.Proofs.YtcklkngljapecaaW.PrintMore Go.Proofs.Ytcklkngljapecaa.Bx Go.Proofs.Ytcklkngljapecaa.Nx Go.Proofs.Ytcklkngljapecaa.Px
def bt (l : List Int) (i : Nat) : Int := l.getD (i / 8) 0 / 2 ^ (i % 8) % 2
theorem bt_range (l : List Int) (i : Nat) : bt l i = 0 ∨ bt l i = 1 := by unfold bt; omega
def valF (g : Nat → Int) : Nat → Nat → Int
  | _, 0 => 0
  | P, d + 1 => g P + 2 * valF g (P + 1) d
theorem valF_snoc (g : Nat → Int) : ∀ (d P : Nat), valF g P (d + 1) = valF g P d + g (P + d) * 2 ^ d
  | 0, P => by simp [valF]
  | d + 1, P => by
    rw [valF, valF_snoc g d (P + 1), valF, Int.pow_succ, show P + 1 + d = P + (d + 1) by omega, Int.mul_add, Int.add_assoc, ← Int.mul_assoc, Int.mul_comm (2 ^ d) 2, ← Int.mul_assoc, Int.mul_comm 2 (g (P + (d + 1)))]
theorem valF_range {g : Nat → Int} (hg : ∀ i, g i = 0 ∨ g i = 1) : ∀ (d P : Nat), 0 ≤ valF g P d ∧ valF g P d < 2 ^ d
  | 0, P => by simp [valF]
  | d + 1, P => by
    have := valF_range hg d (P + 1)
    have h2 := hg P
    rw [valF, Int.pow_succ]
    omega
theorem getD_u8 {l : List Int} (hl : ∀ x ∈ l, 0 ≤ x ∧ x ≤ 255) (j : Nat) : 0 ≤ l.getD j 0 ∧ l.getD j 0 ≤ 255 := by
  rw [List.getD_eq_getElem?_getD]
  by_cases h : j < l.length
  · rw [List.getElem?_eq_getElem h]; exact hl _ (List.getElem_mem h)
  · rw [List.getElem?_eq_none (by omega)]; simp
theorem shr_range {x : Int} {t : Nat} (h : 0 ≤ x ∧ x ≤ 255) : 0 ≤ x / 2 ^ t ∧ x / 2 ^ t ≤ 255 := by
  have hp : (0 : Int) < 2 ^ t := Int.pow_pos (by decide)
  have := Int.ediv_le_self (2 ^ t) h.1
  exact ⟨Int.ediv_nonneg h.1 (Int.le_of_lt hp), by omega⟩
theorem and_one_u8 (x : Int) (h0 : 0 ≤ x) (h1 : x ≤ 255) : bits .and .u8 x 1 = x % 2 := by
  obtain ⟨a, rfl⟩ := Int.eq_ofNat_of_zero_le h0
  have e := (bits_nat .u8 8 (by decide) wraps_u8 a 1 (by omega) (by decide)).1
  have e2 : ((1 : Nat) : Int) = 1 := rfl
  rw [e2] at e
  rw [e, Nat.and_one_is_mod]; omega
theorem bitv_eq {x : Int} {t : Nat} (h : 0 ≤ x ∧ x ≤ 255) : bitv x t = x / 2 ^ t % 2 := by
  have := shr_range (t := t) h
  unfold bitv
  rw [and_one_u8 _ this.1 this.2]
  exact w64 (by omega) (by omega)
theorem allB_eq {l : List Int} (hl : ∀ x ∈ l, 0 ≤ x ∧ x ≤ 255) (m : Nat) : allB l m = (List.range m).map (bt l) := by
  unfold allB
  refine List.map_congr_left fun j _ => ?_
  rw [bitv_eq (getD_u8 hl _)]; rfl
theorem or_bit {d : Nat} {x b : Int} (hx0 : 0 ≤ x) (hx : x < 2 ^ d) (hd : d < 64) (hb : b = 0 ∨ b = 1) : bits .or .u64 x (IntKind.u64.wrap (IntKind.u64.wrap b * 2 ^ d)) = x + b * 2 ^ d := by
  have hp : (0 : Int) < 2 ^ d := Int.pow_pos (by decide)
  have hp2 : (2 : Int) ^ d ≤ 2 ^ 63 := by
    have := Nat.pow_le_pow_right (n := 2) (by decide) (show d ≤ 63 by omega)
    have e : ∀ n : Nat, ((2 ^ n : Nat) : Int) = (2 : Int) ^ n := fun n => by simp
    rw [← e, ← e]; exact Int.ofNat_le.2 this
  have e63 : (2 : Int) ^ 63 = 9223372036854775808 := by decide
  have hw : IntKind.u64.wrap b = b := by rw [u64w]; omega
  have hv : IntKind.u64.wrap (b * 2 ^ d) = b * 2 ^ d := by rw [u64w]; rcases hb with rfl | rfl <;> omega
  rw [hw, hv]
  exact or_low_high d x (b * 2 ^ d) hx0 hx (by rcases hb with rfl | rfl <;> omega) (Int.mul_emod_left _ _) (by rcases hb with rfl | rfl <;> omega) (by omega)
def outF (g : Nat → Int) (W count p : Nat) : List Int := (List.range count).map fun i => valF g (i * W) (min W (p - i * W))
theorem outF_length (g : Nat → Int) (W count p : Nat) : (outF g W count p).length = count := by simp [outF]
theorem outF_get (g : Nat → Int) (W count p i : Nat) (h : i < count) : rd (outF g W count p) (i : Int) = valF g (i * W) (min W (p - i * W)) := by
  unfold rd outF
  rw [List.getD_eq_getElem?_getD, List.getElem?_map, show ((i : Int)).toNat = i from rfl, List.getElem?_range h]; rfl
theorem outF_step {g : Nat → Int} (hg : ∀ i, g i = 0 ∨ g i = 1) {W count k t : Nat} (hk : k < count) (ht : t < W) (hW : W ≤ 64) :
    (outF g W count (k * W + t)).set k (bits .or .u64 (rd (outF g W count (k * W + t)) (k : Int)) (IntKind.u64.wrap (IntKind.u64.wrap (g (k * W + t)) * 2 ^ t))) = outF g W count (k * W + t + 1) := by
  rw [outF_get _ _ _ _ _ hk, show min W (k * W + t - k * W) = t by omega, or_bit (valF_range hg _ _).1 (valF_range hg _ _).2 (by omega) (hg _), ← valF_snoc]
  apply List.ext_getElem
  · simp [outF]
  · intro i h1 h2
    rw [List.getElem_set]
    by_cases e : k = i
    · subst e
      rw [if_pos rfl]
      simp only [outF, List.getElem_map, List.getElem_range]
      rw [show min W (k * W + t + 1 - k * W) = t + 1 by omega]
    · rw [if_neg e]
      simp only [outF, List.getElem_map, List.getElem_range]
      congr 1
      rcases Nat.lt_or_ge i k with hi | hi
      · have : (i + 1) * W ≤ k * W := Nat.mul_le_mul_right _ (by omega)
        rw [Nat.add_mul, Nat.one_mul] at this
        omega
      · have : (k + 1) * W ≤ i * W := Nat.mul_le_mul_right _ (by omega)
        rw [Nat.add_mul, Nat.one_mul] at this
        omega
theorem urun_in (g : Nat → Int) (hg : ∀ i, g i = 0 ∨ g i = 1) (W count : Nat) (hW : W ≤ 64) : ∀ (p : Nat), p ≤ count * W → ∃ k t, urun (W : Int) count ((List.range p).map g) = some (outF g W count p, k, t) ∧ p = k * W + t ∧ (0 < W → t < W) ∧ k ≤ count
  | 0, h => by
    refine ⟨0, 0, ?_, by omega, fun h => h, Nat.zero_le _⟩
    have : outF g W count 0 = List.replicate count 0 := by
      apply List.ext_getElem
      · simp [outF]
      · intro i h1 h2
        simp [outF, valF]
    rw [this]; rfl
  | p + 1, h => by
    obtain ⟨k, t, h1, h2, h3, h4⟩ := urun_in g hg W count hW p (by omega)
    have hW0 : 0 < W := by
      rcases Nat.eq_zero_or_pos W with e | e
      · subst e; omega
      · exact e
    have ht := h3 hW0
    have hk : k < count := by
      rcases Nat.lt_or_ge k count with e | e
      · exact e
      · have : count * W ≤ k * W := Nat.mul_le_mul_right _ e
        omega
    rw [List.range_succ, List.map_append, List.map_cons, List.map_nil, urun_snoc, h1, Option.bind_some]
    unfold ust
    rw [if_pos ⟨by omega, hk⟩]
    simp only
    rw [h2, outF_step hg hk ht hW]
    by_cases e : t + 1 = W
    · rw [if_pos (by omega)]
      exact ⟨k + 1, 0, rfl, by rw [Nat.add_mul]; omega, fun _ => hW0, hk⟩
    · rw [if_neg (by omega)]
      exact ⟨k, t + 1, rfl, by omega, fun _ => by omega, h4⟩
theorem urun_out (g : Nat → Int) (hg : ∀ i, g i = 0 ∨ g i = 1) (W count : Nat) (hW : W ≤ 64) (q : Nat) :
    (match urun (W : Int) count ((List.range (count * W + q)).map g) with | some r => (r.1, (0 : Int)) | none => ([], 8)) = if ∀ j, j < q → g (count * W + j) = 0 then (outF g W count (count * W), 0) else ([], 8) := by
  obtain ⟨k, t, h1, h2, h3, h4⟩ := urun_in g hg W count hW (count * W) (Nat.le_refl _)
  have hno : ¬ (0 < (W : Int) ∧ k < count) := by
    rintro ⟨a, b⟩
    have ht := h3 (by omega)
    have : (k + 1) * W ≤ count * W := Nat.mul_le_mul_right _ (by omega)
    rw [Nat.add_mul] at this
    omega
  have key : ∀ q, urun (W : Int) count ((List.range (count * W + q)).map g) = if ∀ j, j < q → g (count * W + j) = 0 then some (outF g W count (count * W), k, t) else none := by
    intro q
    induction q with
    | zero => rw [Nat.add_zero, h1, if_pos (fun j hj => absurd hj (by omega))]
    | succ q ih =>
      rw [← Nat.add_assoc, List.range_succ, List.map_append, List.map_cons, List.map_nil, urun_snoc, ih]
      by_cases c : ∀ j, j < q → g (count * W + j) = 0
      · rw [if_pos c, Option.bind_some]
        unfold ust
        rw [if_neg hno]
        by_cases d : g (count * W + q) = 0
        · rw [if_pos d, if_pos (fun j hj => by rcases Nat.lt_or_ge j q with e | e; exact c j e; rw [show j = q by omega]; exact d)]
        · rw [if_neg d, if_neg (fun h => d (h q (by omega)))]
      · rw [if_neg c, if_neg (fun h => c (fun j hj => h j (by omega)))]; rfl
  rw [key]
  by_cases c : ∀ j, j < q → g (count * W + j) = 0
  · rw [if_pos c, if_pos c]
  · rw [if_neg c, if_neg c]
def UnpackR (l : List Int) (w n : Int) : List Int × Int :=
  if (SizeR w n).2 = 0 then (if (l.length : Int) < (SizeR w n).1 then ([], 6) else if (SizeR w n).1 < (l.length : Int) then ([], 7) else
    if ∀ j, j < 8 * l.length - n.toNat * w.toNat → bt l (n.toNat * w.toNat + j) = 0 then (outF (bt l) w.toNat n.toNat (n.toNat * w.toNat), 0) else ([], 8)) else ([], (SizeR w n).2)
theorem unpack {k : Nat} {l : List Int} {w n : Int} (hk : 1 ≤ k) (hl : ∀ x ∈ l, 0 ≤ x ∧ x ≤ 255) (hlen : l.length ≤ 1048576) : bits_Unpack.f k l w n = some (UnpackR l w n) := by
  unfold bits_Unpack.f UnpackR
  rw [size hk, Option.bind_some]
  by_cases c : (SizeR w n).2 = 0
  · obtain ⟨h1, h2, h3, h4, h5, h6⟩ := SizeR_ok c
    rw [if_pos c, if_pos c]
    by_cases d : (l.length : Int) < (SizeR w n).1
    · rw [if_pos d, if_pos d]
    · rw [if_neg d, if_neg d]
      by_cases e : (SizeR w n).1 < (l.length : Int)
      · rw [if_pos e, if_pos e]
      · rw [if_neg e, if_neg e, if_pos ⟨h1, h2, h3, h4, hlen⟩]
        obtain ⟨W, rfl⟩ := Int.eq_ofNat_of_zero_le h1
        obtain ⟨m, rfl⟩ := Int.eq_ofNat_of_zero_le h3
        have hm : ((m * W : Nat) : Int) = (m : Int) * (W : Int) := Int.natCast_mul _ _
        rw [show ((W : Int)).toNat = W from rfl, show ((m : Int)).toNat = m from rfl, allB_eq hl]
        have := urun_out (bt l) (bt_range l) W m (by omega) (8 * l.length - m * W)
        rw [show m * W + (8 * l.length - m * W) = 8 * l.length by omega] at this
        exact congrArg some this
  · rw [if_neg c, if_neg c]
theorem ref_bit_l (i : Nat) (hi : i ≤ 1000000000) : ∀ (d k c : Nat) (y x : Int), c + d = i % 8 → d < k → 0 ≤ y → y ≤ 255 → x = y / 2 ^ c → marquetryref01_Bit.l0 k (i : Int) x (c : Int) = some (y / 2 ^ (i % 8) % 2)
  | 0, k, c, y, x, hc, hk, h0, h1, hx => by
    obtain ⟨k, rfl⟩ : ∃ j, k = j + 1 := ⟨k - 1, by omega⟩
    rw [marquetryref01_Bit.l0, tmod8, if_neg (by omega)]
    have hr := shr_range (x := y) (t := c) ⟨h0, h1⟩
    rw [← hx] at hr
    rw [Int.tmod_eq_emod_of_nonneg hr.1, u64w, hx, show i % 8 = c by omega]
    congr 1; omega
  | d + 1, k, c, y, x, hc, hk, h0, h1, hx => by
    obtain ⟨k, rfl⟩ : ∃ j, k = j + 1 := ⟨k - 1, by omega⟩
    have hr := shr_range (x := y) (t := c) ⟨h0, h1⟩
    rw [← hx] at hr
    rw [marquetryref01_Bit.l0, tmod8, if_pos (by omega), Int.tdiv_eq_ediv_of_nonneg hr.1, show x / 2 % 256 = x / 2 by omega, w64s (by omega)]
    exact ref_bit_l i hi d k (c + 1) y (x / 2) (by omega) (by omega) h0 h1 (div_pow hx)
theorem ref_bit {k i : Nat} {l : List Int} (hk : 9 ≤ k) (hi : i ≤ 1000000000) (hl : ∀ x ∈ l, 0 ≤ x ∧ x ≤ 255) (h : i < 8 * l.length) : marquetryref01_Bit.f k l (i : Int) = some (bt l i) := by
  unfold marquetryref01_Bit.f
  rw [w64d hi, if_pos (by omega), if_pos (by omega)]
  have := getD_u8 hl (i / 8)
  exact ref_bit_l i hi (i % 8) k 0 (l.getD (i / 8) 0) _ (by omega) (by omega) this.1 this.2 (by rw [Int.pow_zero, Int.ediv_one]; rfl)
theorem un_l2 {l : List Int} (hl : ∀ x ∈ l, 0 ≤ x ∧ x ≤ 255) (W m i : Nat) (hW : W ≤ 64) (hiW : i * W + W ≤ 8 * l.length) (hlen : 8 * l.length ≤ 1000000000) (out : List Int) : ∀ (d k : Nat), d ≤ W → 10 ≤ k →
    marquetryref01_Unpack.l2 (k + d + 1) l (W : Int) (m : Int) out (i : Int) (valF (bt l) (i * W + d) (W - d)) ((d : Int) - 1) = if out.length < 17592186044416 then marquetryref01_Unpack.l1 k l (W : Int) (m : Int) (out ++ [valF (bt l) (i * W) W]) (wrap64 ((i : Int) + 1)) else none
  | 0, k, hd, hk => by
    rw [show k + 0 + 1 = k + 1 by omega, marquetryref01_Unpack.l2, if_neg (by omega)]
    simp
  | d + 1, k, hd, hk => by
    have hm : (i : Int) * (W : Int) = ((i * W : Nat) : Int) := (Int.natCast_mul _ _).symm
    rw [show k + (d + 1) + 1 = (k + d + 1) + 1 by omega, marquetryref01_Unpack.l2, if_pos (by omega), hm, w64n (show i * W ≤ 1000000000 by omega), show (((i * W : Nat) : Int) + (((d + 1 : Nat) : Int) - 1)) = ((i * W + d : Nat) : Int) by omega, w64n (show i * W + d ≤ 1000000000 by omega), ref_bit (by omega) (by omega) hl (by omega), Option.bind_some]
    have hv := valF_range (bt_range l) (W - (d + 1)) (i * W + (d + 1))
    have hb := bt_range l (i * W + d)
    have hp : (2 : Int) ^ (W - (d + 1)) ≤ 2 ^ 63 := by
      have := Nat.pow_le_pow_right (n := 2) (by decide) (show W - (d + 1) ≤ 63 by omega)
      have e : ∀ n : Nat, ((2 ^ n : Nat) : Int) = (2 : Int) ^ n := fun n => by simp
      rw [← e, ← e]; exact Int.ofNat_le.2 this
    have e63 : (2 : Int) ^ 63 = 9223372036854775808 := by decide
    have hst : IntKind.u64.wrap (IntKind.u64.wrap (2 * valF (bt l) (i * W + (d + 1)) (W - (d + 1))) + bt l (i * W + d)) = valF (bt l) (i * W + d) (W - d) := by
      rw [show W - d = (W - (d + 1)) + 1 by omega, valF, u64w, u64w, show i * W + d + 1 = i * W + (d + 1) by omega]
      omega
    have hw : wrap64 (((d + 1 : Nat) : Int) - 1 - 1) = (d : Int) - 1 := by rw [w64 (by omega) (by omega)]; omega
    rw [hst, hw]
    exact un_l2 hl W m i hW hiW hlen out d k (by omega) hk
theorem un_l1 {l : List Int} (hl : ∀ x ∈ l, 0 ≤ x ∧ x ≤ 255) (W m : Nat) (hW : W ≤ 64) (hmW : m * W ≤ 8 * l.length) (hlen : 8 * l.length ≤ 1000000000) (hm : m ≤ 1048576) : ∀ (d i k : Nat) (out : List Int), i + d = m → out = (List.range i).map (fun i => valF (bt l) (i * W) W) → 12 + d * (W + 2) ≤ k →
    marquetryref01_Unpack.l1 k l (W : Int) (m : Int) out (i : Int) = some ((List.range m).map (fun i => valF (bt l) (i * W) W), 0)
  | 0, i, k, out, hi, ho, hk => by
    obtain ⟨k, rfl⟩ : ∃ j, k = j + 1 := ⟨k - 1, by omega⟩
    rw [marquetryref01_Unpack.l1, if_neg (by omega), ho, show i = m by omega]
  | d + 1, i, k, out, hi, ho, hk => by
    rw [Nat.add_mul] at hk
    obtain ⟨k, rfl⟩ : ∃ j, k = (j + W + 1) + 1 := ⟨k - W - 2, by omega⟩
    have hlo : out.length = i := by rw [ho]; simp
    have hiW : i * W + W ≤ 8 * l.length := by
      have : (i + 1) * W ≤ m * W := Nat.mul_le_mul_right _ (by omega)
      rw [Nat.add_mul] at this; omega
    have h2 := un_l2 hl W m i hW hiW hlen out W k (Nat.le_refl _) (by omega)
    rw [Nat.sub_self] at h2
    rw [marquetryref01_Unpack.l1, if_pos (by omega), w64 (by omega) (by omega)]
    have e0 : valF (bt l) (i * W + W) 0 = 0 := rfl
    rw [e0] at h2
    rw [h2, if_pos (by omega), w64s (by omega)]
    exact un_l1 hl W m hW hmW hlen hm d (i + 1) k _ (by omega) (by rw [ho, List.range_succ, List.map_append]; rfl) (by omega)
theorem un_l0 {l : List Int} (hl : ∀ x ∈ l, 0 ≤ x ∧ x ≤ 255) (W m : Nat) (hW : W ≤ 64) (hmW : m * W ≤ 8 * l.length) (hlen : l.length ≤ 100000000) (hm : m ≤ 1048576) : ∀ (q p k : Nat), p + q = 8 * l.length → 14 + m * (W + 2) + q ≤ k →
    marquetryref01_Unpack.l0 k l (W : Int) (m : Int) (l.length : Int) (p : Int) = some (if ∀ j, j < q → bt l (p + j) = 0 then ((List.range m).map (fun i => valF (bt l) (i * W) W), 0) else ([], 8))
  | 0, p, k, hp, hk => by
    obtain ⟨k, rfl⟩ : ∃ j, k = j + 1 := ⟨k - 1, by omega⟩
    rw [marquetryref01_Unpack.l0, w64 (by omega) (by omega), if_neg (by omega), if_pos (fun j hj => absurd hj (by omega))]
    exact un_l1 hl W m hW hmW (by omega) hm m 0 k [] (by omega) rfl (by omega)
  | q + 1, p, k, hp, hk => by
    obtain ⟨k, rfl⟩ : ∃ j, k = j + 1 := ⟨k - 1, by omega⟩
    rw [marquetryref01_Unpack.l0, w64 (by omega) (by omega), if_pos (by omega), ref_bit (by omega) (by omega) hl (by omega), Option.bind_some]
    by_cases c : bt l p = 0
    · rw [if_pos c, w64s (by omega), un_l0 hl W m hW hmW hlen hm q (p + 1) k (by omega) (by omega)]
      congr 1
      by_cases d : ∀ j, j < q → bt l (p + 1 + j) = 0
      · rw [if_pos d, if_pos]
        intro j hj
        rcases Nat.eq_zero_or_pos j with e | e
        · subst e; exact c
        · have := d (j - 1) (by omega)
          rwa [show p + 1 + (j - 1) = p + j by omega] at this
      · rw [if_neg d, if_neg]
        intro h
        exact d fun j hj => by have := h (j + 1) (by omega); rwa [show p + (j + 1) = p + 1 + j by omega] at this
    · rw [if_neg c, if_neg (fun h => c (h 0 (by omega)))]
theorem ref_unpack {k : Nat} {l : List Int} {w n : Int} (hl : ∀ x ∈ l, 0 ≤ x ∧ x ≤ 255) (hlen : l.length ≤ 100000) (hk : 100000000 ≤ k) : marquetryref01_Unpack.f k l w n = some (UnpackR l w n) := by
  unfold marquetryref01_Unpack.f UnpackR
  rw [ref_size (by omega), Option.bind_some]
  by_cases c : (SizeR w n).2 = 0
  · obtain ⟨h1, h2, h3, h4, h5, h6⟩ := SizeR_ok c
    rw [if_pos c, if_pos c]
    by_cases d : (l.length : Int) < (SizeR w n).1
    · rw [if_pos d, if_pos d]
    · rw [if_neg d, if_neg d]
      by_cases e : (SizeR w n).1 < (l.length : Int)
      · rw [if_pos e, if_pos (show (l.length : Int) > (SizeR w n).1 from e)]
      · rw [if_neg e, if_neg (show ¬ (l.length : Int) > (SizeR w n).1 from e)]
        obtain ⟨W, rfl⟩ := Int.eq_ofNat_of_zero_le h1
        obtain ⟨m, rfl⟩ := Int.eq_ofNat_of_zero_le h3
        have hm : ((m * W : Nat) : Int) = (m : Int) * (W : Int) := Int.natCast_mul _ _
        have hmW : m * W ≤ m * 64 := Nat.mul_le_mul_left _ (by omega)
        rw [show ((W : Int)).toNat = W from rfl, show ((m : Int)).toNat = m from rfl, show (SizeR (W : Int) (m : Int)).1 = (l.length : Int) by omega, ← hm, w64n (by omega)]
        have hmm : m * (W + 2) ≤ m * 66 := Nat.mul_le_mul_left _ (by omega)
        rw [un_l0 hl W m (by omega) (by omega) (by omega) (by omega) (8 * l.length - m * W) (m * W) k (by omega) (by omega)]
        have eo : (List.range m).map (fun i => valF (bt l) (i * W) W) = outF (bt l) W m (m * W) := by
          unfold outF
          refine List.map_congr_left fun i hi => ?_
          have hi := List.mem_range.1 hi
          have : (i + 1) * W ≤ m * W := Nat.mul_le_mul_right _ (by omega)
          rw [Nat.add_mul] at this
          rw [show min W (m * W - i * W) = W by omega]
        rw [eo]
  · rw [if_neg c, if_neg c]
end Go.Proofs.Ytcklkngljapecaa.L1
end

section
namespace Go.Proofs.Ytcklkngljapecaa.L10
set_option linter.unusedVariables false
set_option linter.unusedSimpArgs false
open Go.RowKit Go.Proofs.Ytcklkngljapecaa.X Go.Proofs.YtcklkngljapecaaW.PrintWords Go.Proofs.YtcklkngljapecaaW.PrintLast Go.Proofs.YtcklkngljapecaaW.PrintMore Go.Proofs.Ytcklkngljapecaa.Bx Go.Proofs.Ytcklkngljapecaa.Nx Go.Proofs.Ytcklkngljapecaa.Px Go.Proofs.Ytcklkngljapecaa.L1
abbrev D := S30
abbrev z : D := z30
theorem check {k s : Int} (h : (Lit.int .i64 k).wf = true) : datum_Check.f k s = some (if chkB k s = true then 0 else 2) := by
  unfold datum_Check.f
  rw [if_pos h]
theorem ref_check {K : Nat} {k s : Int} (hK : 1 ≤ K) : marquetryref09_Check.f K k s = some (chkB k s) := by
  obtain ⟨K, rfl⟩ : ∃ j, K = j + 1 := ⟨K - 1, by omega⟩
  unfold marquetryref09_Check.f
  simp only [marquetryref09_Check.j0]
  by_cases h0 : k = 0
  · subst h0; simp [chkB, kindsF, bne]
  by_cases h1 : k = 1
  · subst h1; simp [chkB, kindsF, bne]
  by_cases h2 : k = 2
  · subst h2; simp [chkB, kindsF, bne]
  by_cases h4 : k = 4
  · subst h4; simp [chkB, kindsF, bne]
  by_cases h5 : k = 5
  · subst h5; simp [chkB, kindsF, bne]
  by_cases h6 : k = 6
  · subst h6; simp [chkB, kindsF, bne]
  by_cases h7 : k = 7
  · subst h7
    by_cases s1 : s ≥ 1
    · simp [chkB, kindsF, s1]
    · simp [chkB, kindsF, s1]
  · simp [chkB, kindsF, h0, h1, h2, h4, h5, h6, h7]
theorem chk_kind {k s : Int} (h : chkB k s = true) : (k = 0 ∨ k = 1 ∨ k = 2 ∨ k = 4 ∨ k = 5 ∨ k = 6 ∨ k = 7) ∧ (k = 7 → 1 ≤ s ∧ s ≤ 1048576) := by
  by_cases h7 : k = 7
  · subst h7
    refine ⟨by simp, fun _ => ?_⟩
    simpa [chkB, kindsF] using h
  · refine ⟨?_, fun e => absurd e h7⟩
    unfold chkB kindsF at h
    rw [if_neg h7] at h
    by_cases h6 : k = 6
    · simp [h6]
    by_cases h5 : k = 5
    · simp [h5]
    by_cases h4 : k = 4
    · simp [h4]
    by_cases h2 : k = 2
    · simp [h2]
    by_cases h1 : k = 1
    · simp [h1]
    by_cases h0 : k = 0
    · simp [h0]
    · rw [if_neg h6, if_neg h5, if_neg h4, if_neg h2, if_neg h1, if_neg h0] at h
      simp at h
def numV (k n : Int) : Int := if k = 1 then wrap64 (wrap32 (n % 4294967296)) else wrap64 n
def FrontS (k s : Int) (l : List Int) : D × Int :=
  if k = 6 then (if (l.length : Int) < 4 then (z, 0) else if leS (win l 0 4) > (l.length : Int) - 4 then (z, 0) else (⟨6, 0, strOfNums ((l.take (4 + leS (win l 0 4)).toNat).drop 4)⟩, 4 + leS (win l 0 4)))
  else if k = 7 then (if (l.length : Int) < s then (z, 0) else (⟨7, 0, strOfNums (l.take s.toNat)⟩, s))
  else if (l.length : Int) < wide k then (z, 0) else (⟨k, numV k (leS (win l 0 (wide k).toNat)), ⟨#[]⟩⟩, wide k)
theorem wide_range (k : Int) : wide k = 4 ∨ wide k = 8 := by unfold wide; split <;> simp
theorem readL {l : List Int} {m : Int} (hm : m = 4 ∨ m = 8) : ReadLittleR l 0 m = if (l.length : Int) < m then (0, 6) else (leS (win l 0 m.toNat), 0) := by
  unfold ReadLittleR
  rw [if_neg (by omega)]
  by_cases c : (l.length : Int) < m
  · rw [if_pos (by omega), if_pos c]
  · rw [if_neg (by omega), if_neg c]; rfl
theorem front {F : Nat} {k s : Int} {l : List Int} (hF : 12 ≤ F) (hl : ∀ x ∈ l, 0 ≤ x ∧ x ≤ 255) (hlen : l.length ≤ 1048576) (hs : k = 7 → 1 ≤ s) : rdBy F k s l = some (FrontS k s l) := by
  unfold rdBy FrontS
  by_cases h6 : k = 6
  · rw [if_pos h6, if_pos h6]
    unfold rdLong
    rw [readLittle hF hl (by omega) (by omega), readL (.inl rfl), Option.bind_some]
    by_cases c : (l.length : Int) < 4
    · rw [if_pos c, if_pos c]; simp
    · rw [if_neg c, if_neg c]
      have h0 := (leS_win_lt hl (show 0 + 4 ≤ l.length by omega)).1
      rw [if_pos rfl, if_pos ⟨by omega, by omega, h0⟩]
      rfl
  rw [if_neg h6, if_neg h6]
  by_cases h7 : k = 7
  · rw [if_pos h7, if_pos h7]
    unfold rdFixed
    rw [if_pos (by have := hs h7; omega)]
  rw [if_neg h7, if_neg h7]
  unfold rdWhole
  have hw := wide_range k
  rw [readLittle hF hl (by omega) (by omega), readL hw, Option.bind_some]
  by_cases c : (l.length : Int) < wide k
  · rw [if_pos c, if_pos c]; simp
  · rw [if_neg c, if_neg c, if_pos rfl]
    rfl
theorem FrontS_size {k s : Int} {l : List Int} (hl : ∀ x ∈ l, 0 ≤ x ∧ x ≤ 255) (hs : k = 7 → 1 ≤ s) : 0 ≤ (FrontS k s l).2 ∧ (FrontS k s l).2 ≤ l.length := by
  unfold FrontS
  by_cases h6 : k = 6
  · rw [if_pos h6]
    by_cases c : (l.length : Int) < 4
    · rw [if_pos c]; dsimp only; omega
    · have h0 := (leS_win_lt hl (show 0 + 4 ≤ l.length by omega)).1
      rw [if_neg c]
      split <;> (dsimp only; omega)
  rw [if_neg h6]
  by_cases h7 : k = 7
  · have := hs h7
    rw [if_pos h7]
    split <;> (dsimp only; omega)
  rw [if_neg h7]
  have hw := wide_range k
  split <;> (dsimp only; omega)
theorem numV_eq {n : Int} (h0 : 0 ≤ n) (h1 : n < 4294967296) : wrap64 (wrap32 (n % 4294967296)) = if wrap64 n > 2147483647 then wrap64 (wrap64 n - 4294967296) else wrap64 n := by
  have e := w64 (a := n) (by omega) (by omega)
  rw [Int.emod_eq_of_lt h0 h1, e]
  by_cases c : n > 2147483647
  · rw [if_pos c]
    have : wrap32 n = n - 4294967296 := by unfold wrap32; omega
    rw [this]
  · rw [if_neg c]
    have : wrap32 n = n := by unfold wrap32; omega
    rw [this, e]
theorem ref_front {K : Nat} {k s : Int} {l : List Int} (hK : 20 ≤ K) (hl : ∀ x ∈ l, 0 ≤ x ∧ x ≤ 255) (hlen : l.length ≤ 1048576) (hs : k = 7 → 1 ≤ s) (hk : k = 1 ∨ k = 2 ∨ k = 4 ∨ k = 5 ∨ k = 6 ∨ k = 7) :
    marquetryref09_Front.f K l k s = some ((FrontS k s l).1.f0, (FrontS k s l).1.f1, (FrontS k s l).1.f2, (FrontS k s l).2) := by
  unfold marquetryref09_Front.f FrontS
  by_cases h6 : k = 6
  · rw [if_pos h6, if_pos h6, ref_readLittle (by omega) hl (by omega) (by omega), readL (.inl rfl), Option.bind_some]
    by_cases c : (l.length : Int) < 4
    · rw [if_pos c, if_pos c]; rfl
    · have h0 := (leS_win_lt hl (show 0 + 4 ≤ l.length by omega)).1
      rw [if_neg c, if_neg c, if_pos rfl, if_pos ⟨by omega, by omega, h0⟩]
      have e4 : (4 : Int).toNat = 4 := rfl
      dsimp only
      rw [e4]
      by_cases d : leS (win l 0 4) > (l.length : Int) - 4
      · rw [if_pos d, if_pos d]; rfl
      · rw [if_neg d, if_neg d]
  rw [if_neg h6, if_neg h6]
  by_cases h7 : k = 7
  · rw [if_pos h7, if_pos h7, if_pos (by have := hs h7; omega)]
    by_cases c : (l.length : Int) < s
    · rw [if_pos c, if_pos c]; rfl
    · rw [if_neg c, if_neg c]
  rw [if_neg h7, if_neg h7, if_pos (by omega)]
  have hw := wide_range k
  by_cases c : (l.length : Int) < wide k
  · rw [if_pos c, if_pos c]; rfl
  · rw [if_neg c, if_neg c, ref_readLittle (by omega) hl (by omega) (by omega), readL hw, if_neg c, Option.bind_some]
    obtain ⟨g0, g1⟩ := leS_win_lt hl (show 0 + (wide k).toNat ≤ l.length by omega)
    unfold fNum numV
    by_cases h1 : k = 1
    · rw [if_pos h1, if_pos h1]
      have e4 : (wide k).toNat = 4 := by unfold wide; rw [if_pos (.inl h1)]; rfl
      rw [e4] at g0 g1 ⊢
      rw [numV_eq g0 g1]
    · rw [if_neg h1, if_neg h1]
def truth (b : Int) : D := ⟨0, b, ⟨#[]⟩⟩
def goS (k s : Int) (b : List Int) : Nat → Int → List D → List D × Int
  | 0, at_, acc => if at_ < (b.length : Int) then ([], 7) else (acc, 0)
  | n + 1, at_, acc => if (FrontS k s (b.drop at_.toNat)).2 = 0 then ([], 6) else goS k s b n (at_ + (FrontS k s (b.drop at_.toNat)).2) (acc ++ [(FrontS k s (b.drop at_.toNat)).1])
theorem drop_u8 {b : List Int} (hb : ∀ x ∈ b, 0 ≤ x ∧ x ≤ 255) (n : Nat) : ∀ x ∈ b.drop n, 0 ≤ x ∧ x ≤ 255 := fun x hx => hb x (List.mem_of_mem_drop hx)
theorem go_prog {F : Nat} {k s : Int} {b : List Int} (hF : 12 ≤ F) (hb : ∀ x ∈ b, 0 ≤ x ∧ x ≤ 255) (hl : b.length ≤ 1048576) (hs : k = 7 → 1 ≤ s) : ∀ (n : Nat) (at_ : Int) (acc : List D), 0 ≤ at_ → at_ ≤ b.length → acc.length + n ≤ 1000000 → rdGo F k s b n at_ acc = some (goS k s b n at_ acc)
  | 0, at_, acc, _, _, _ => rfl
  | n + 1, at_, acc, h0, h1, h2 => by
    have hd := drop_u8 hb at_.toNat
    obtain ⟨g0, g1⟩ := FrontS_size (k := k) (s := s) hd hs
    have hlen : (b.drop at_.toNat).length = b.length - at_.toNat := List.length_drop
    rw [rdGo, if_pos ⟨h0, h1⟩, front hF hd (by omega) hs, Option.bind_some, goS]
    by_cases c : (FrontS k s (b.drop at_.toNat)).2 = 0
    · rw [if_pos c, if_pos c]
    · rw [if_neg c, if_neg c, if_pos (by omega), w64 (by omega) (by omega)]
      exact go_prog hF hb hl hs n _ _ (by omega) (by omega) (by simp; omega)
theorem go_ref {k s : Int} {b : List Int} {cnt : Nat} (hb : ∀ x ∈ b, 0 ≤ x ∧ x ≤ 255) (hl : b.length ≤ 1048576) (hs : k = 7 → 1 ≤ s) (hk : k = 1 ∨ k = 2 ∨ k = 4 ∨ k = 5 ∨ k = 6 ∨ k = 7) (hc : cnt ≤ 65536) : ∀ (n K : Nat) (i at_ : Int) (acc : List D), 0 ≤ i → i + n = cnt → 0 ≤ at_ → at_ ≤ b.length → acc.length + n ≤ 1000000 → n + 21 ≤ K → marquetryref09_Read.l1 K b (cnt : Int) acc at_ i k s = some (goS k s b n at_ acc)
  | 0, K, i, at_, acc, hi0, hi, h0, h1, h2, hK => by
    obtain ⟨K, rfl⟩ : ∃ j, K = j + 1 := ⟨K - 1, by omega⟩
    rw [marquetryref09_Read.l1, if_neg (by omega), goS]
    by_cases c : at_ < (b.length : Int)
    · rw [if_pos c, if_pos c]
    · rw [if_neg c, if_neg c]
  | n + 1, K, i, at_, acc, hi0, hi, h0, h1, h2, hK => by
    obtain ⟨K, rfl⟩ : ∃ j, K = j + 1 := ⟨K - 1, by omega⟩
    have hd := drop_u8 hb at_.toNat
    obtain ⟨g0, g1⟩ := FrontS_size (k := k) (s := s) hd hs
    have hlen : (b.drop at_.toNat).length = b.length - at_.toNat := List.length_drop
    rw [marquetryref09_Read.l1, if_pos (by omega), if_pos h0, if_pos h1, ref_front (by omega) hd (by omega) hs hk, Option.bind_some, goS]
    dsimp only
    by_cases c : (FrontS k s (b.drop at_.toNat)).2 = 0
    · rw [if_pos c, if_pos c]
    · rw [if_neg c, if_neg c, if_pos (by omega), w64 (a := at_ + _) (by omega) (by omega), w64 (a := i + 1) (by omega) (by omega)]
      exact go_ref hb hl hs hk hc n K (i + 1) _ _ (by omega) (by omega) (by omega) (by omega) (by simp; omega) (by omega)
theorem truths_l {xs : List Int} (hx : ∀ x ∈ xs, x = 0 ∨ x = 1) : ∀ (l1 l0 : List Int) (K : Nat) (acc : List D), xs = l0 ++ l1 → xs.length ≤ 2200000 ∧ acc.length + l1.length ≤ 2200000 → l1.length < K → plain_truths.l0 K acc xs (xs.length : Int) (l0.length : Int) = some (acc ++ l1.map truth, 0)
  | [], l0, K, acc, he, hl, hK => by
    obtain ⟨K, rfl⟩ : ∃ j, K = j + 1 := ⟨K - 1, by omega⟩
    rw [List.append_nil] at he
    subst he
    rw [plain_truths.l0, if_neg (by omega)]; simp
  | x :: l1, l0, K, acc, he, hl, hK => by
    obtain ⟨K, rfl⟩ : ∃ j, K = j + 1 := ⟨K - 1, by omega⟩
    have hll : xs.length = l0.length + (l1.length + 1) := by rw [he]; simp
    have hl1 := hl.1
    have hl2 := hl.2
    rw [List.length_cons] at hl2
    have hrd : rd xs (l0.length : Int) = x := by
      unfold rd
      rw [he, List.getD_eq_getElem?_getD, show ((l0.length : Int)).toNat = l0.length from rfl, List.getElem?_append_right (Nat.le_refl _)]; simp
    have ih := truths_l hx l1 (l0 ++ [x]) K (acc ++ [truth x]) (by rw [he]; simp) ⟨hl.1, by have := hl.2; simp at this ⊢; omega⟩ (by rw [List.length_cons] at hK; omega)
    rw [plain_truths.l0, if_pos (by omega), if_pos (by omega), if_pos (by omega), hrd]
    have hb : datum_Bool.f (x == 1) = some (0, x, ⟨#[]⟩) := by
      rcases hx x (by rw [he]; simp) with rfl | rfl <;> rfl
    rw [hb, Option.bind_some, if_pos (by omega), w64 (by omega) (by omega)]
    simp only [List.length_append, List.length_singleton] at ih
    rw [show ((l0.length : Int) + 1) = ((l0.length + 1 : Nat) : Int) by omega]
    show plain_truths.l0 K (acc ++ [truth x]) xs (xs.length : Int) ((l0.length + 1 : Nat) : Int) = _
    rw [ih]; simp
theorem ref_truths_l {xs : List Int} {s : Int} (hx : ∀ x ∈ xs, x = 0 ∨ x = 1) : ∀ (l1 l0 : List Int) (K : Nat) (acc : List D), xs = l0 ++ l1 → xs.length ≤ 2200000 ∧ acc.length + l1.length ≤ 2200000 → l1.length < K → marquetryref09_Read.l0 K acc xs (l0.length : Int) 0 s = some (acc ++ l1.map truth, 0)
  | [], l0, K, acc, he, hl, hK => by
    obtain ⟨K, rfl⟩ : ∃ j, K = j + 1 := ⟨K - 1, by omega⟩
    rw [List.append_nil] at he
    subst he
    rw [marquetryref09_Read.l0, if_neg (by omega)]; simp
  | x :: l1, l0, K, acc, he, hl, hK => by
    obtain ⟨K, rfl⟩ : ∃ j, K = j + 1 := ⟨K - 1, by omega⟩
    have hll : xs.length = l0.length + (l1.length + 1) := by rw [he]; simp
    have hl1 := hl.1
    have hl2 := hl.2
    rw [List.length_cons] at hl2
    have hrd : rd xs (l0.length : Int) = x := by
      unfold rd
      rw [he, List.getD_eq_getElem?_getD, show ((l0.length : Int)).toNat = l0.length from rfl, List.getElem?_append_right (Nat.le_refl _)]; simp
    have ih := ref_truths_l (s := s) hx l1 (l0 ++ [x]) K (acc ++ [truth x]) (by rw [he]; simp) ⟨hl.1, by have := hl.2; simp at this ⊢; omega⟩ (by rw [List.length_cons] at hK; omega)
    have hxw : wrap64 x = x := by rcases hx x (by rw [he]; simp) with rfl | rfl <;> exact w64 (by decide) (by decide)
    rw [marquetryref09_Read.l0, if_pos (by omega), if_pos (by omega), hrd, if_pos (by omega), w64 (a := (l0.length : Int) + 1) (by omega) (by omega), hxw]
    simp only [List.length_append, List.length_singleton] at ih
    rw [show ((l0.length : Int) + 1) = ((l0.length + 1 : Nat) : Int) by omega]
    show marquetryref09_Read.l0 K (acc ++ [truth x]) xs ((l0.length + 1 : Nat) : Int) 0 s = _
    rw [ih]; simp
theorem unpack_bits {l : List Int} {n : Int} : ∀ x ∈ (UnpackR l 1 n).1, x = 0 ∨ x = 1 := by
  intro x hx
  unfold UnpackR at hx
  by_cases c : (SizeR 1 n).2 = 0
  · rw [if_pos c] at hx
    by_cases d : (l.length : Int) < (SizeR 1 n).1
    · rw [if_pos d] at hx; cases hx
    rw [if_neg d] at hx
    by_cases e : (SizeR 1 n).1 < (l.length : Int)
    · rw [if_pos e] at hx; cases hx
    rw [if_neg e] at hx
    by_cases f : ∀ j, j < 8 * l.length - n.toNat * (1 : Int).toNat → bt l (n.toNat * (1 : Int).toNat + j) = 0
    · rw [if_pos f] at hx
      obtain ⟨i, hi, rfl⟩ := List.getElem_of_mem hx
      rw [outF_length] at hi
      have e2 := outF_get (bt l) (1 : Int).toNat n.toNat (n.toNat * (1 : Int).toNat) i hi
      unfold rd at e2
      rw [show ((i : Int)).toNat = i from rfl, List.getD_eq_getElem?_getD, List.getElem?_eq_getElem (by rw [outF_length]; exact hi)] at e2
      have e3 := valF_range (bt_range l) (min (1 : Int).toNat (n.toNat * (1 : Int).toNat - i * (1 : Int).toNat)) (i * (1 : Int).toNat)
      rw [show min (1 : Int).toNat (n.toNat * (1 : Int).toNat - i * (1 : Int).toNat) = 1 by have : (1 : Int).toNat = 1 := rfl; rw [this]; omega] at e2 e3
      simp only [Option.getD_some] at e2
      rw [e2]
      omega
    · rw [if_neg f] at hx; cases hx
  · rw [if_neg c] at hx; cases hx
theorem unpack_len {l : List Int} {n : Int} (h : n ≤ 65536) : (UnpackR l 1 n).1.length ≤ 65536 := by
  unfold UnpackR
  split
  · split
    · simp
    · split
      · simp
      · split
        · rw [outF_length]; omega
        · simp
  · simp
def ReadS (l : List Int) (k s n : Int) : List D × Int :=
  if chkB k s = false then ([], 2) else if n < 0 then ([], 2) else if (l.length : Int) > 1048576 then ([], 3) else if n > 65536 then ([], 3) else if k = 0 then (if (UnpackR l 1 n).2 = 0 then ((UnpackR l 1 n).1.map truth, 0) else ([], (UnpackR l 1 n).2))
  else goS k s l n.toNat 0 []
theorem read {F : Nat} {l : List Int} {k s n : Int} (hF : 100000 ≤ F) (hl : ∀ x ∈ l, 0 ≤ x ∧ x ≤ 255) (hk : (Lit.int .i64 k).wf = true) : plain_Read.f F l k s n = some (ReadS l k s n) := by
  unfold plain_Read.f ReadS
  rw [check hk, Option.bind_some]
  cases hc : chkB k s with
  | false => simp
  | true =>
    obtain ⟨hkk, hs⟩ := chk_kind hc
    rw [if_pos rfl, if_neg (show ¬ ((0 : Int) ≠ 0) by simp), if_neg (show ¬ (true = false) by simp)]
    by_cases c2 : n < 0
    · rw [if_pos c2, if_pos c2]
    rw [if_neg c2, if_neg c2]
    by_cases c3 : (l.length : Int) > 1048576
    · rw [if_pos c3, if_pos c3]
    rw [if_neg c3, if_neg c3]
    by_cases c4 : n > 65536
    · rw [if_pos c4, if_pos c4]
    rw [if_neg c4, if_neg c4]
    by_cases c5 : k = 0
    · rw [if_pos c5, if_pos c5]
      unfold plain_truths.f
      rw [unpack (by omega) hl (by omega), Option.bind_some]
      by_cases c6 : (UnpackR l 1 n).2 = 0
      · rw [if_pos c6, if_pos c6]
        have hlen := unpack_len (l := l) (n := n) (by omega)
        have := truths_l (unpack_bits (l := l) (n := n)) (UnpackR l 1 n).1 [] F [] rfl ⟨by omega, by simp; omega⟩ (by omega)
        simpa using this
      · rw [if_neg c6, if_neg c6]
    · rw [if_neg c5, if_neg c5, if_pos (by omega)]
      exact go_prog (by omega) hl (by omega) (fun h => (hs h).1) _ _ _ (by omega) (by omega) (by simp; omega)
theorem ref_read {K : Nat} {l : List Int} {k s n : Int} (hK : 100100000 ≤ K) (hl : ∀ x ∈ l, 0 ≤ x ∧ x ≤ 255) (hlen : l.length ≤ 100000) : marquetryref09_Read.f K l k s n = some (ReadS l k s n) := by
  obtain ⟨K, rfl⟩ : ∃ j, K = j + 2 := ⟨K - 2, by omega⟩
  unfold marquetryref09_Read.f ReadS
  rw [ref_check (by omega), Option.bind_some]
  cases hc : chkB k s with
  | false => simp [marquetryref09_Read.j0]
  | true =>
    obtain ⟨hkk, hs⟩ := chk_kind hc
    rw [if_pos rfl, if_neg (by decide)]
    simp only [marquetryref09_Read.j0]
    by_cases c2 : n < 0
    · rw [if_pos (by simpa using c2), if_pos c2]
    rw [if_neg (by simpa using c2), if_neg c2, if_neg (by omega), if_neg (by omega)]
    simp only [marquetryref09_Read.j1]
    by_cases c4 : n > 65536
    · rw [if_pos (by simpa using c4), if_pos c4]
    rw [if_neg (by simpa using c4), if_neg c4]
    by_cases c5 : k = 0
    · subst c5
      rw [if_pos rfl, if_pos rfl, ref_unpack hl hlen (by omega), Option.bind_some]
      by_cases c6 : (UnpackR l 1 n).2 = 0
      · rw [if_pos c6, if_pos c6]
        have hlen := unpack_len (l := l) (n := n) (by omega)
        have := ref_truths_l (s := s) (unpack_bits (l := l) (n := n)) (UnpackR l 1 n).1 [] K [] rfl ⟨by omega, by simp; omega⟩ (by omega)
        simpa using this
      · rw [if_neg c6, if_neg c6]
    · rw [if_neg c5, if_neg c5]
      obtain ⟨m, rfl⟩ := Int.eq_ofNat_of_zero_le (show 0 ≤ n by omega)
      rw [Int.toNat_natCast]
      exact go_ref hl (by omega) (fun h => (hs h).1) (by omega) (by omega) m K 0 0 [] (by omega) (by omega) (by omega) (by omega) (by simp; omega) (by omega)
theorem same_l {xs : List D} (hl : xs.length ≤ 1000000) : ∀ (d K : Nat) (i : Int), 0 ≤ i → i + d = xs.length → d < K → marquetryref09_SameAll.l0 K xs xs i = some true
  | 0, K, i, h0, h1, hK => by
    obtain ⟨K, rfl⟩ : ∃ j, K = j + 1 := ⟨K - 1, by omega⟩
    rw [marquetryref09_SameAll.l0, if_neg (by omega)]
  | d + 1, K, i, h0, h1, hK => by
    obtain ⟨K, rfl⟩ : ∃ j, K = j + 1 := ⟨K - 1, by omega⟩
    rw [marquetryref09_SameAll.l0, if_pos (by omega), if_pos h0, if_pos (by omega), if_neg (by simp), w64 (by omega) (by omega)]
    exact same_l hl d K (i + 1) (by omega) (by omega) (by omega)
theorem same {K : Nat} {xs : List D} (hl : xs.length ≤ 1000000) (hK : 1000001 ≤ K) : marquetryref09_SameAll.f K xs xs = some true := by
  unfold marquetryref09_SameAll.f
  rw [if_pos rfl]
  exact same_l hl xs.length K 0 (by omega) (by omega) (by omega)
theorem goS_len (k s : Int) (b : List Int) : ∀ (n : Nat) (at_ : Int) (acc : List D), (goS k s b n at_ acc).1.length ≤ acc.length + n
  | 0, at_, acc => by unfold goS; split <;> simp
  | n + 1, at_, acc => by
    unfold goS
    split
    · simp
    · have := goS_len k s b n (at_ + (FrontS k s (b.drop at_.toNat)).2) (acc ++ [(FrontS k s (b.drop at_.toNat)).1])
      simp at this; omega
theorem ReadS_len {l : List Int} {k s n : Int} : (ReadS l k s n).1.length ≤ 65536 := by
  unfold ReadS
  repeat' split
  all_goals first | (simp; done) | skip
  · have := unpack_len (l := l) (n := n) (by omega)
    simpa using this
  · have := goS_len k s l n.toNat 0 []
    simp at this; omega
end Go.Proofs.Ytcklkngljapecaa.L10
end

section
namespace Go.Proofs.Ytcklkngljapecaa.Rd
open Go.ChangeShapes Go.WideShapes Go.Deep Go.RowKit Go.Joins Go.Proofs.YtcklkngljapecaaW.PrintWords
structure Opens (P : Program) (t : TypeId) {α : Type} (d : Kd α) (Wf : α → Prop) : Prop where
  opens : ∀ {H : Type} {enc : TypeId × Value → H} {w : World} {base : Nat} {spare : Nat → Bool} {held : Bool} {n : Nat} {cs : List Value} {y : DataW H × List MemPlace},
    DataW.trod enc P w base spare held n t cs = some y → (∀ m ∈ y.1.weights P t, m ≤ reachBytes) → ∃ x, d.K w x cs ∧ Wf x
theorem reach_le {m : Nat} (h : m ≤ reachBytes) : m ≤ 140737488351232 := h
theorem opens_int {P : Program} {t : TypeId} {k : IntKind} (hu : P.underlying t = some (.int k)) : Opens P t (Kd.int k) (fun x => (Lit.int k x).wf = true) := by
  refine ⟨fun {H enc w base spare held n cs y} h _ => ?_⟩
  obtain ⟨x, rfl, _, hw⟩ := DataW.trod_int hu h
  exact ⟨x, rfl, hw⟩
theorem list_of {α : Type} {p : Nat → α → Prop} : ∀ (n : Nat), (∀ i, i < n → ∃ x, p i x) → ∃ xs : List α, xs.length = n ∧ ∀ i x, xs[i]? = some x → p i x
  | 0, _ => ⟨[], rfl, fun i x h => by simp at h⟩
  | n + 1, h => by
    obtain ⟨xs, hl, hx⟩ := list_of n (fun i hi => h i (by omega))
    obtain ⟨x, hp⟩ := h n (by omega)
    refine ⟨xs ++ [x], by simp [hl], fun i y hy => ?_⟩
    rcases Nat.lt_or_ge i xs.length with hi | hi
    · rw [List.getElem?_append_left hi] at hy; exact hx i y hy
    · have hi' : i = xs.length := by
        have := (List.getElem?_eq_some_iff.1 hy).1
        simp at this; omega
      subst hi'
      have : x = y := by simpa using hy
      subst this
      rw [hl]; exact hp
theorem weights_all {H : Type} {P : Program} {e : TypeId} : ∀ (ds : List (DataW H)) (d : DataW H), d ∈ ds → ∀ m ∈ d.weights P e, m ∈ DataW.weightsAll P e ds
  | [], d, h, _, _ => by simp at h
  | d0 :: ds, d, h, m, hm => by
    simp only [DataW.weightsAll, List.mem_append]
    rcases List.mem_cons.1 h with rfl | h
    · exact .inl hm
    · exact .inr (weights_all ds d h m hm)
theorem opens_slice {P : Program} {t e : TypeId} {α : Type} {d : Kd α} {Wf : α → Prop} {B : Nat} (hu : P.underlying t = some (.slice e)) (hsz : P.cellsOf e = d.sz) (hB : P.bytesOf e = B) (ho : Opens P e d Wf) :
    Opens P t (Kd.slice e d) (fun xs => (∀ x ∈ xs, Wf x) ∧ xs.length ≤ maxLen ∧ xs.length * B ≤ 140737488351232) := by
  refine ⟨fun {H enc w base spare held n cs y} h hw => ?_⟩
  rcases open_slice hu h with ⟨rfl, _⟩ | ⟨a, len, cap, m, n', D, Pl, rfl, hb, hl, hm, hmm, rfl, hx⟩
  · exact ⟨[], ⟨none, 0, rfl, Nat.le_refl _, rfl, Nat.zero_le _, fun h => absurd h (by simp)⟩, by simp⟩
  · have hlm : len ≤ m := by rw [hmm]; split <;> omega
    have hsize : len * B ≤ 140737488351232 := by
      have := hw ((((List.range len).map D).length + ((List.range (m - len)).map fun j => D (len + j)).length) * P.bytesOf e) (by simp [DataW.weights, hu])
      rw [hB] at this
      refine Nat.le_trans (Nat.mul_le_mul_right _ ?_) (reach_le this)
      simp
    obtain ⟨xs, hxl, hxs⟩ := list_of (p := fun i x => ∃ cs', w.cells? base (a.add (i * P.cellsOf e)) (P.cellsOf e) = some cs' ∧ d.K w x cs' ∧ Wf x) len (fun i hi => by
      obtain ⟨cs', h1, h2⟩ := hx i (by omega)
      obtain ⟨x, hk, hwf⟩ := ho.opens h2 (fun q hq => hw q (by
        simp only [DataW.weights, hu, List.mem_cons, List.mem_append]
        exact .inr (.inl (weights_all _ (D i) (List.mem_map.2 ⟨i, List.mem_range.2 hi, rfl⟩) q hq))))
      exact ⟨x, cs', h1, hk, hwf⟩)
    subst hxl
    refine ⟨xs, ⟨some a, cap, rfl, hl, rfl, ?_, fun _ => ⟨a, rfl, fun j p hp => ?_⟩⟩, ⟨fun x hx' => ?_, Nat.le_trans hl hm, hsize⟩⟩
    · unfold maxLen at hm; omega
    · obtain ⟨cs', h1, hk, _⟩ := hxs j p hp
      obtain ⟨_, hcl, hcc⟩ := World.cells?_some h1
      refine ⟨cs', by rw [hcl, hsz], hk, fun i u hiu => ?_⟩
      have hi : i < P.cellsOf e := by rw [← hcl]; exact (List.getElem?_eq_some_iff.1 hiu).1
      rw [← hsz, ← Go.Deep.add_add, hcc i hi]
      exact hiu
    · obtain ⟨i, hi⟩ := List.getElem?_of_mem hx'
      exact (hxs i x hi).choose_spec.2.2
theorem weights_each {H : Type} {P : Program} {t : TypeId} {fs : Array Field} {ds : List (DataW H)} (hu : P.underlying t = some (.struct fs)) (hw : ∀ m ∈ (DataW.agg ds).weights P t, m ≤ reachBytes) {j : Nat} {f : Field} {d : DataW H} (hf : fs.toList[j]? = some f) (hd : ds[j]? = some d) :
    ∀ m ∈ d.weights P f.type, m ≤ reachBytes := by
  intro m hm
  refine hw m ?_
  simp only [DataW.weights, hu]
  exact DataW.weights_mem_each (by rw [List.getElem?_map, hf]; rfl) hd m hm
theorem one_of {P : Program} {fs : Array Field} (hone : oneCellFields P fs = true) {j : Nat} {f : Field} (h : fs.toList[j]? = some f) : f.offset = j ∧ P.cellsOf f.type = 1 := hone_of hone j f (by simpa using h)
theorem opens_struct2 {P : Program} {t : TypeId} {f0 f1 : Field} {α β : Type} {d0 : Kd α} {d1 : Kd β} {W0 : α → Prop} {W1 : β → Prop} (hu : P.underlying t = some (.struct #[f0, f1])) (hone : oneCellFields P #[f0, f1] = true) (hC : P.cellsOf t = 2)
    (h0 : Opens P f0.type d0 W0) (h1 : Opens P f1.type d1 W1) : Opens P t (Kd.pair d0 d1) (fun x => W0 x.1 ∧ W1 x.2) := by
  refine ⟨fun {H enc w base spare held n cs y} h hw => ?_⟩
  obtain ⟨y0, y1, m, rfl, hl, e0, e1⟩ := trod_struct2 hu h
  obtain ⟨o0, k0⟩ := one_of hone (j := 0) (f := f0) rfl
  obtain ⟨o1, k1⟩ := one_of hone (j := 1) (f := f1) rfl
  rw [hC] at hl
  match cs, hl with
  | [c0, c1], _ =>
    rw [o0, k0] at e0; rw [o1, k1] at e1
    obtain ⟨x0, q0, z0⟩ := h0.opens e0 (weights_each hu hw (j := 0) rfl rfl)
    obtain ⟨x1, q1, z1⟩ := h1.opens e1 (weights_each hu hw (j := 1) rfl rfl)
    exact ⟨(x0, x1), ⟨[c0], [c1], rfl, q0, q1⟩, z0, z1⟩
theorem opens_arg {P : Program} {t : TypeId} {α : Type} {d : Kd α} {Wf : α → Prop} (ho : Opens P t d Wf) {H : Type} {enc : TypeId × Value → H} {w : World} {base : Nat} {spare : Nat → Bool} {held : Bool} {v : Value} {dt : DataW H} {p : List MemPlace}
    (h : DataW.Trod enc P w base spare held t v dt p) {ts : List TypeId} {ds : List (DataW H)} {j : Nat} (hsz : (DataW.weightsEach P ts ds).all (· ≤ reachBytes) = true) (ht : ts[j]? = some t) (hd : ds[j]? = some dt) : ∃ x, d.K w x v.cells.toList ∧ Wf x := by
  obtain ⟨n, hn⟩ := h
  refine ho.opens hn (fun m hm => ?_)
  have := List.all_eq_true.1 hsz m (DataW.weights_mem_each ht hd m hm)
  simpa using this
end Go.Proofs.Ytcklkngljapecaa.Rd
end
