/- Layer 1, packed numbers: the program's bytes and the reference's are the bits, one behind the other, in bytes. -/
import Derived.Test.YtpibhiacmceekaaX5
import Derived.Test.YtpibhiacmceekaaX8
import Derived.Test.YtpibhiacmceekaaX12
import Derived.Test.YtpibhiacmceekaaX9
import Derived.Test.YtpibhiacmceekaaX13
import Derived.Test.YtpibhiacmceekaaX11
import Derived.Test.YtpibhiacmceekaaL1
import Derived.Test.YtpibhiacmceekaaPx
namespace Go.Proofs.Ytpibhiacmceekaa.L1
set_option linter.unusedVariables false
set_option linter.unusedSimpArgs false
open Go.RowKit Go.Proofs.Ytpibhiacmceekaa.X Go.Proofs.YtpibhiacmceekaaW.PrintWords Go.Proofs.YtpibhiacmceekaaW.PrintLast Go.Proofs.YtpibhiacmceekaaW.PrintMore Go.Proofs.Ytpibhiacmceekaa.Bx Go.Proofs.Ytpibhiacmceekaa.Nx Go.Proofs.Ytpibhiacmceekaa.Px

/-! ### sizes -/
def SizeR (w n : Int) : Int × Int := if w < 0 ∨ w > 64 ∨ n < 0 then (0, 2) else if n > 1048576 ∨ (n * w + 7) / 8 > 1048576 then (0, 3) else ((n * w + 7) / 8, 0)
theorem size_j (k : Nat) (w n : Int) (hw : 0 ≤ w) (hw1 : w ≤ 64) (hn : 0 ≤ n) : bits_Size.j0 (k + 1) w n false = some (SizeR w n) := by
  simp only [bits_Size.j0, Bool.false_eq_true, if_false]
  unfold SizeR
  rw [if_neg (by omega : ¬ (w < 0 ∨ w > 64 ∨ n < 0))]
  by_cases c : n > 1048576
  · rw [if_pos c, if_pos (.inl c)]
  · have h1 : 0 ≤ n * w := Int.mul_nonneg hn hw
    have h2 : n * w ≤ 1048576 * 64 := Int.mul_le_mul (by omega) hw1 hw (by omega)
    have a1 : wrap64 (n * w) = n * w := w64 (by omega) (by omega)
    have a2 : wrap64 (n * w + 7) = n * w + 7 := w64 (by omega) (by omega)
    have a3 : wrap64 (Int.tdiv (n * w + 7) 8) = (n * w + 7) / 8 := by rw [Int.tdiv_eq_ediv_of_nonneg (by omega)]; exact w64 (by omega) (by omega)
    rw [if_neg c, a1, a2, a3]
    by_cases d : (n * w + 7) / 8 > 1048576
    · rw [if_pos d, if_pos (.inr d)]
    · rw [if_neg d, if_neg (by omega)]
theorem size {k : Nat} {w n : Int} (hk : 1 ≤ k) : bits_Size.f k w n = some (SizeR w n) := by
  obtain ⟨k, rfl⟩ : ∃ j, k = j + 1 := ⟨k - 1, by omega⟩
  unfold bits_Size.f
  by_cases c0 : w < 0
  · rw [if_pos c0]; simp [bits_Size.j0, SizeR, c0]
  rw [if_neg c0]
  by_cases c1 : w > 64
  · rw [if_pos c1]; simp [bits_Size.j0, SizeR]; omega
  rw [if_neg c1]
  by_cases c2 : n < 0
  · rw [decide_eq_true c2]; simp [bits_Size.j0, SizeR]; omega
  · rw [decide_eq_false c2]; exact size_j k w n (by omega) (by omega) (by omega)
theorem ref_size_same (k : Nat) (w n : Int) : marquetryref01_Size.f k w n = bits_Size.f k w n := by
  have j : ∀ k x y z, marquetryref01_Size.j0 k x y z = bits_Size.j0 k x y z := by
    intro k; cases k <;> intros <;> rfl
  unfold bits_Size.f marquetryref01_Size.f; simp only [j]
theorem ref_size {k : Nat} {w n : Int} (hk : 1 ≤ k) : marquetryref01_Size.f k w n = some (SizeR w n) := by rw [ref_size_same, size hk]

/-! ### the program -/
theorem pkv_eq {n x u : Int} {i : Nat} {r : Nat} (hn0 : 0 ≤ n) (hn1 : n ≤ 18446744073709551615) (hu : u = (r : Int)) (hr : r < 8) (hx0 : 0 ≤ x) (hx : x < 2 ^ r) :
    pkv n (i : Int) x u = x + (n / 2 ^ i % 2) * 2 ^ r := by
  unfold pkv
  subst hu
  have hp : (0 : Int) < 2 ^ i := Int.pow_pos (by decide)
  have hd0 : 0 ≤ n / 2 ^ i := Int.ediv_nonneg hn0 (by omega)
  have hd1 : n / 2 ^ i ≤ 18446744073709551615 := by
    have := Int.ediv_le_self (2 ^ i) hn0; omega
  rw [show ((i : Int)).toNat = i from rfl, show ((r : Int)).toNat = r from rfl, and_one_u64 _ hd0 hd1]
  generalize n / 2 ^ i = m at hd0 hd1
  have hr' : r = 0 ∨ r = 1 ∨ r = 2 ∨ r = 3 ∨ r = 4 ∨ r = 5 ∨ r = 6 ∨ r = 7 := by omega
  have hpr : (2 : Int) ^ r ≤ 128 := by rcases hr' with rfl | rfl | rfl | rfl | rfl | rfl | rfl | rfl <;> decide
  have hb : m % 2 % 256 * 2 ^ r % 256 = m % 2 * 2 ^ r := by
    rcases hr' with rfl | rfl | rfl | rfl | rfl | rfl | rfl | rfl <;> simp only [Int.reducePow] <;> omega
  rw [hb]
  have h0 : 0 ≤ m % 2 * 2 ^ r := Int.mul_nonneg (by omega) (by omega)
  have h1 : m % 2 * 2 ^ r ≤ 1 * 2 ^ r := Int.mul_le_mul_of_nonneg_right (by omega) (by omega)
  obtain ⟨a, rfl⟩ := Int.eq_ofNat_of_zero_le hx0
  obtain ⟨b, hb2⟩ := Int.eq_ofNat_of_zero_le h0
  have j := bits_join .u8 8 (by decide) wraps_u8 r (m % 2 * 2 ^ r) a h0 (Int.mul_emod_left _ _) (by omega) hx0 hx (by omega)
  have c := (bits_nat .u8 8 (by decide) wraps_u8 a b (by omega) (by omega)).2
  have d := (bits_nat .u8 8 (by decide) wraps_u8 b a (by omega) (by omega)).2
  rw [Nat.or_comm] at c
  rw [hb2] at j ⊢
  have : bits .or .u8 (a : Int) (b : Int) = bits .or .u8 (b : Int) (a : Int) := c.trans d.symm
  omega
/-- Where a byte ends, a new one; else the same: the bytes up to the place of the next bit. -/
theorem packB_grow (B : List Int) : (if B.length % 8 = 0 then packB B ++ [0] else packB B) = (List.range (B.length / 8 + 1)).map (byteAt B) := by
  split
  · rename_i h
    unfold packB
    rw [show (B.length + 7) / 8 = B.length / 8 by omega, List.range_succ, List.map_append]
    simp [byteAt_out B (show B.length ≤ 8 * (B.length / 8) by omega)]
  · unfold packB
    rw [show (B.length + 7) / 8 = B.length / 8 + 1 by omega]
theorem rd_map (B : List Int) (n j : Nat) (h : j < n) : rd ((List.range n).map (byteAt B)) (j : Int) = byteAt B j := by
  unfold rd
  rw [List.getD_eq_getElem?_getD, List.getElem?_map, show ((j : Int)).toNat = j from rfl, List.getElem?_range h]; rfl
theorem pkb_eq {n : Int} {i : Nat} {B : List Int} (hB : ∀ b ∈ B, b = 0 ∨ b = 1) (hn0 : 0 ≤ n) (hn1 : n ≤ 18446744073709551615) :
    pkb n (i : Int) ((List.range (B.length / 8 + 1)).map (byteAt B)) ((B.length % 8 : Nat) : Int) = packB (B ++ [n / 2 ^ i % 2]) := by
  unfold pkb
  have hl : ((List.range (B.length / 8 + 1)).map (byteAt B)).length = B.length / 8 + 1 := by simp
  rw [hl, show (((B.length / 8 + 1 : Nat) : Int) - 1) = ((B.length / 8 : Nat) : Int) by omega, show B.length / 8 + 1 - 1 = B.length / 8 by omega, rd_map B _ _ (by omega),
    pkv_eq hn0 hn1 rfl (by omega) (byteAt_range hB _).1 (byteAt_last hB), map_set B _ _ (by omega)]
  unfold packB
  rw [List.length_append, List.length_singleton, show (B.length + 1 + 7) / 8 = B.length / 8 + 1 by omega]
theorem pkl_eq : ∀ (d : Nat) (k : Nat) (n : Int) (i : Nat) (B : List Int), (∀ b ∈ B, b = 0 ∨ b = 1) → 0 ≤ n → n ≤ 18446744073709551615 → B.length + d < 7999990000 → d < k →
    pkl k n ((i + d : Nat) : Int) (i : Int) (packB B) ((B.length % 8 : Nat) : Int) = some (packB (B ++ bitsFrom n i d), (((B ++ bitsFrom n i d).length % 8 : Nat) : Int))
  | 0, k, n, i, B, hB, h0, h1, hl, hk => by
    obtain ⟨k, rfl⟩ : ∃ j, k = j + 1 := ⟨k - 1, by omega⟩
    simp only [pkl]
    rw [if_neg (by omega)]; simp [bitsFrom]
  | d + 1, k, n, i, B, hB, h0, h1, hl, hk => by
    obtain ⟨k, rfl⟩ : ∃ j, k = j + 1 := ⟨k - 1, by omega⟩
    have hB' : ∀ b ∈ B ++ [n / 2 ^ i % 2], b = 0 ∨ b = 1 := by
      intro b hb
      rcases List.mem_append.1 hb with hb | hb
      · exact hB b hb
      · rw [List.mem_singleton.1 hb]; omega
    have ih := pkl_eq d k n (i + 1) (B ++ [n / 2 ^ i % 2]) hB' h0 h1 (by simp; omega) (by omega)
    rw [show i + 1 + d = i + (d + 1) by omega, List.append_assoc] at ih
    have e : [n / 2 ^ i % 2] ++ bitsFrom n (i + 1) d = bitsFrom n i (d + 1) := rfl
    rw [e, List.length_append, List.length_singleton] at ih
    have hg := packB_grow B
    simp only [pkl]
    rw [if_pos (by omega)]
    have hu : ((((B.length % 8 : Nat) : Int) + 1) % 8) = (((B.length + 1) % 8 : Nat) : Int) := by omega
    have hi : (i : Int) + 1 = ((i + 1 : Nat) : Int) := by omega
    have hpl := packB_length B
    by_cases c : B.length % 8 = 0
    · rw [if_pos c] at hg
      rw [if_pos (by omega), if_pos (by omega), hg, pkb_eq hB h0 h1, hu, hi]; exact ih
    · rw [if_neg c] at hg
      rw [if_neg (by omega), if_pos (by omega)]
      rw [show packB B = (List.range (B.length / 8 + 1)).map (byteAt B) from hg, pkb_eq hB h0 h1, hu, hi]; exact ih
theorem pks_eq : ∀ (l : List Int) (k : Nat) (w : Nat) (B : List Int), (∀ b ∈ B, b = 0 ∨ b = 1) → (∀ x ∈ l, 0 ≤ x ∧ x ≤ 18446744073709551615) → B.length + l.length * w + w < 7999990000 → w < k →
    pks k (w : Int) l (packB B) ((B.length % 8 : Nat) : Int) = some (packB (B ++ allBits w l), (((B ++ allBits w l).length % 8 : Nat) : Int))
  | [], k, w, B, hB, hl, hs, hk => by simp [pks, allBits]
  | x :: l, k, w, B, hB, hl, hs, hk => by
    have hx := hl x (by simp)
    have h1 := pkl_eq w k x 0 B hB hx.1 hx.2 (by rw [List.length_cons, Nat.add_mul] at hs; omega) hk
    rw [Nat.zero_add] at h1
    rw [pks, show (0 : Int) = ((0 : Nat) : Int) from rfl, h1, Option.bind_some]
    rw [if_pos (by constructor <;> (simp only; omega))]
    have hB' : ∀ b ∈ B ++ bitsFrom x 0 w, b = 0 ∨ b = 1 := by
      intro b hb
      rcases List.mem_append.1 hb with hb | hb
      · exact hB b hb
      · exact bitsFrom_range x w 0 b hb
    have ih := pks_eq l k w (B ++ bitsFrom x 0 w) hB' (fun y hy => hl y (by simp [hy])) (by rw [List.length_cons, Nat.add_mul] at hs; rw [List.length_append, bitsFrom_length]; omega) hk
    rw [List.append_assoc, ← allBits_cons] at ih
    exact ih
theorem pkc_eq : ∀ (l : List Int) (k : Nat) (w : Int), 65 ≤ k → (∀ x ∈ l, 0 ≤ x ∧ x ≤ 18446744073709551615) → pkc k w l = some (decide (∀ x ∈ l, (wd x.toNat : Int) ≤ w))
  | [], k, w, hk, hl => by simp [pkc]
  | x :: l, k, w, hk, hl => by
    have hx := hl x (by simp)
    rw [pkc, width hk hx.1 hx.2, Option.bind_some, pkc_eq l k w hk (fun y hy => hl y (by simp [hy]))]
    by_cases c : (wd x.toNat : Int) > w
    · rw [if_pos c, decide_eq_false (by intro h; have := h x (by simp); omega)]
    · rw [if_neg c]
      congr 1
      rw [decide_eq_decide]
      simp only [List.mem_cons, forall_eq_or_imp]
      constructor
      · intro h; exact ⟨by omega, h⟩
      · intro h; exact h.2
def PackR (w : Int) (l : List Int) : List Int × Int :=
  if w < 0 ∨ w > 64 then ([], 2) else if ∀ x ∈ l, (wd x.toNat : Int) ≤ w then (if (SizeR w l.length).2 = 0 then (packB (allBits w.toNat l), 0) else ([], (SizeR w l.length).2)) else ([], 2)
theorem SizeR_ok {w n : Int} (h : (SizeR w n).2 = 0) : 0 ≤ w ∧ w ≤ 64 ∧ 0 ≤ n ∧ n ≤ 1048576 ∧ (SizeR w n).1 = (n * w + 7) / 8 ∧ (n * w + 7) / 8 ≤ 1048576 := by
  unfold SizeR at h ⊢
  split at h
  · simp at h
  · rename_i h1
    rw [if_neg h1]
    split at h
    · simp at h
    · rename_i h2
      rw [if_neg h2]
      exact ⟨by omega, by omega, by omega, by omega, rfl, by omega⟩
theorem pack {k : Nat} {w : Int} {l : List Int} (hk : 66 ≤ k) (hl : ∀ x ∈ l, 0 ≤ x ∧ x ≤ 18446744073709551615) : bits_Pack.f k w l = some (PackR w l) := by
  unfold bits_Pack.f PackR
  by_cases c0 : w < 0
  · rw [if_pos c0, if_pos (.inl c0)]
  rw [if_neg c0]
  by_cases c1 : w > 64
  · rw [if_pos c1, if_pos (.inr c1)]
  rw [if_neg c1, if_neg (by omega), pkc_eq l k w (by omega) hl, Option.bind_some]
  by_cases c2 : ∀ x ∈ l, (wd x.toNat : Int) ≤ w
  · rw [decide_eq_true c2, if_pos rfl, if_pos c2, size (by omega), Option.bind_some]
    by_cases c3 : (SizeR w l.length).2 = 0
    · obtain ⟨h1, h2, h3, h4, h5, h6⟩ := SizeR_ok c3
      rw [if_pos c3, if_pos c3]
      obtain ⟨W, rfl⟩ := Int.eq_ofNat_of_zero_le h1
      have hm : ((l.length * W : Nat) : Int) = (l.length : Int) * (W : Int) := Int.natCast_mul _ _
      have := pks_eq l k W [] (by simp) hl (by simp; omega) (by omega)
      simp only [List.length_nil, Nat.zero_mod, List.nil_append] at this
      have e : packB [] = [] := rfl
      rw [e] at this
      have z : ((0 : Nat) : Int) = 0 := rfl
      rw [z] at this
      rw [this, Option.bind_some]; rfl
    · rw [if_neg c3, if_neg c3]
  · rw [decide_eq_false c2, if_neg (by decide), if_neg c2]

/-! ### the reference -/
theorem powers_l : ∀ (k : Nat) (r i : Nat), i ≤ r → r < 8 → r - i < k → marquetryref01_powers.l0 k (r : Int) (2 ^ i) (i : Int) = some (2 ^ r)
  | 0, _, _, _, _, h => absurd h (by omega)
  | k + 1, r, i, hi, hr, h => by
    simp only [marquetryref01_powers.l0]
    by_cases c : i < r
    · have hp : (2 : Int) ^ i * 2 % 256 = 2 ^ (i + 1) := by
        have : i = 0 ∨ i = 1 ∨ i = 2 ∨ i = 3 ∨ i = 4 ∨ i = 5 ∨ i = 6 := by omega
        rcases this with rfl | rfl | rfl | rfl | rfl | rfl | rfl <;> decide
      rw [if_pos (by omega), hp, w64 (by omega) (by omega)]
      exact powers_l k r (i + 1) (by omega) hr (by omega)
    · rw [if_neg (by omega), show i = r by omega]
theorem powers {k : Nat} {r : Nat} (hk : 9 ≤ k) (hr : r < 8) : marquetryref01_powers.f k (r : Int) = some (2 ^ r) := by
  unfold marquetryref01_powers.f
  have := powers_l k r 0 (by omega) hr (by omega)
  simpa using this
theorem w64n {n : Nat} (h : n ≤ 1000000000) : wrap64 (n : Int) = n := by unfold wrap64; omega
theorem len_le {P c d W n : Nat} (hc : c + (d + 1) = W) (hW : W ≤ 64) (hi : P ≤ 100000000) (hl : n = P + c) : n ≤ 1000000000 := by omega
theorem div_pow {x y : Int} {c : Nat} (hx : x = y / 2 ^ c) : x / 2 = y / 2 ^ (c + 1) := by
  have hp : (0 : Int) ≤ 2 ^ c := Int.le_of_lt (Int.pow_pos (by decide))
  rw [hx, Int.pow_succ, Int.ediv_ediv_of_nonneg hp]
theorem w64d {n : Nat} (h : n ≤ 1000000000) : wrap64 (Int.tdiv (n : Int) 8) = ((n / 8 : Nat) : Int) := by rw [Int.tdiv_eq_ediv_of_nonneg (by omega)]; unfold wrap64; omega
theorem tmod8 {n : Nat} : Int.tmod (n : Int) 8 = ((n % 8 : Nat) : Int) := by rw [Int.tmod_eq_emod_of_nonneg (by omega)]; omega
theorem w64s {n : Nat} (h : n + 1 ≤ 1000000000) : wrap64 ((n : Int) + 1) = ((n + 1 : Nat) : Int) := by unfold wrap64; omega
theorem ref_l2 : ∀ (d : Nat) (k : Nat) (P W : Nat) (l : List Int) (n : Nat) (i c : Nat) (y : Int) (x : Int) (B : List Int), (∀ b ∈ B, b = 0 ∨ b = 1) → c + d = W → W ≤ 64 → (P : Nat) = i * W → P ≤ 100000000 → B.length = P + c → (B.length + d + 7) / 8 ≤ n → 0 ≤ y → y ≤ 18446744073709551615 → x = y / 2 ^ c → 10 ≤ k →
    marquetryref01_Pack.l2 (k + d + 1) (W : Int) l ((List.range n).map (byteAt B)) (i : Int) x (c : Int) = marquetryref01_Pack.l1 k (W : Int) l ((List.range n).map (byteAt (B ++ bitsFrom y c d))) (wrap64 ((i : Int) + 1))
  | 0, k, P, W, l, n, i, c, y, x, B, hB, hc, hW, hP, hi, hl, hn, hy0, hy1, hx, hk => by
    rw [show k + 0 + 1 = k + 1 by omega]
    simp only [marquetryref01_Pack.l2]
    rw [if_neg (by omega)]; simp [bitsFrom]
  | d + 1, k, P, W, l, n, i, c, y, x, B, hB, hc, hW, hP, hi, hl, hn, hy0, hy1, hx, hk => by
    have hp : (0 : Int) < 2 ^ c := Int.pow_pos (by decide)
    have hx0 : 0 ≤ x := by rw [hx]; exact Int.ediv_nonneg hy0 (by omega)
    have hx1 : x ≤ 18446744073709551615 := by rw [hx]; have := Int.ediv_le_self (2 ^ c) hy0; omega
    have hm : (i : Int) * (W : Int) = (P : Int) := by rw [hP]; exact (Int.natCast_mul _ _).symm
    rw [show k + (d + 1) + 1 = (k + d + 1) + 1 by omega]
    have a0 : ((P : Int) + (c : Int)) = ((B.length : Nat) : Int) := by omega
    have hBl := len_le hc hW hi hl
    have hc64 : c + 1 ≤ 1000000000 := by omega
    have hcW : (c : Int) < (W : Int) := by omega
    rw [marquetryref01_Pack.l2, if_pos hcW, hm, w64n (Nat.le_trans hi (by decide)), a0, w64n hBl, w64d hBl, tmod8, w64s hc64, u64_tdiv 2 hx0 hx1 (by decide), Int.tmod_eq_emod_of_nonneg hx0]
    have hbit : y / 2 ^ c % 2 = x % 2 := by rw [hx]
    have hB' : ∀ b ∈ B ++ [y / 2 ^ c % 2], b = 0 ∨ b = 1 := by
      intro b hb
      rcases List.mem_append.1 hb with hb | hb
      · exact hB b hb
      · rw [List.mem_singleton.1 hb]; omega
    have ih := ref_l2 d k P W l n i (c + 1) y (x / 2) (B ++ [y / 2 ^ c % 2]) hB' (by omega) hW hP hi (by simp; omega) (by simp; omega) hy0 hy1 (div_pow hx) hk
    rw [List.append_assoc] at ih
    have e : [y / 2 ^ c % 2] ++ bitsFrom y (c + 1) d = bitsFrom y c (d + 1) := rfl
    rw [e] at ih
    have hlen : ((List.range n).map (byteAt B)).length = n := by simp
    by_cases h1 : x % 2 = 1
    · rw [if_pos h1, if_pos (by omega), if_pos (by rw [hlen]; omega), powers (by omega) (by omega), Option.bind_some, rd_map B n _ (by omega)]
      have hb1 := byteAt_range hB (B.length / 8)
      have hb2 := byteAt_last hB
      have hr8 : B.length % 8 = 0 ∨ B.length % 8 = 1 ∨ B.length % 8 = 2 ∨ B.length % 8 = 3 ∨ B.length % 8 = 4 ∨ B.length % 8 = 5 ∨ B.length % 8 = 6 ∨ B.length % 8 = 7 := by omega
      have hpr : (2 : Int) ^ (B.length % 8) ≤ 128 := by rcases hr8 with h | h | h | h | h | h | h | h <;> rw [h] <;> decide
      have hpr0 : (0 : Int) < 2 ^ (B.length % 8) := Int.pow_pos (by decide)
      have hms := map_set B 1 n (by omega)
      rw [Int.one_mul] at hms
      rw [show (byteAt B (B.length / 8) + 2 ^ (B.length % 8)) % 256 = byteAt B (B.length / 8) + 2 ^ (B.length % 8) by omega, show (((B.length / 8 : Nat) : Int)).toNat = B.length / 8 from rfl, hms]
      rw [hbit, h1] at ih
      exact ih
    · rw [if_neg h1]
      have h0 : x % 2 = 0 := by omega
      rw [hbit, h0] at ih
      rw [map_same] at ih
      exact ih
theorem ref_l1 : ∀ (l1 : List Int) (k : Nat) (W : Nat) (l l0 : List Int) (n : Nat), l = l0 ++ l1 → (∀ x ∈ l, 0 ≤ x ∧ x ≤ 18446744073709551615) → W ≤ 64 → l.length ≤ 1048576 → (l.length * W + 7) / 8 ≤ n → l1.length * (W + 2) + 11 ≤ k →
    marquetryref01_Pack.l1 k (W : Int) l ((List.range n).map (byteAt (allBits W l0))) (l0.length : Int) = some ((List.range n).map (byteAt (allBits W l)), 0)
  | [], k, W, l, l0, n, he, hl, hW, hlen, hn, hk => by
    obtain ⟨k, rfl⟩ : ∃ j, k = j + 1 := ⟨k - 1, by omega⟩
    simp only [marquetryref01_Pack.l1]
    rw [List.append_nil] at he
    subst he
    rw [if_neg (by omega)]
  | x :: l1, k, W, l, l0, n, he, hl, hW, hlen, hn, hk => by
    have hll : l.length = l0.length + (l1.length + 1) := by rw [he]; simp
    have hmw : l0.length * W + W ≤ l.length * W := by
      have := Nat.mul_le_mul_right W (show l0.length + 1 ≤ l.length by omega)
      rw [Nat.add_mul] at this; omega
    have hmb : l.length * W ≤ 1048576 * 64 := Nat.mul_le_mul hlen hW
    have hkk : (x :: l1).length * (W + 2) = l1.length * (W + 2) + (W + 2) := by rw [List.length_cons, Nat.add_mul]; omega
    rw [hkk] at hk
    obtain ⟨k', rfl⟩ : ∃ j, k = (j + W + 1) + 1 := ⟨k - W - 2, by omega⟩
    have hx := hl x (by rw [he]; simp)
    have hrd : rd l (l0.length : Int) = x := by
      unfold rd
      rw [he, List.getD_eq_getElem?_getD, show ((l0.length : Int)).toNat = l0.length from rfl, List.getElem?_append_right (Nat.le_refl _)]; simp
    simp only [marquetryref01_Pack.l1]
    rw [if_pos (by omega), if_pos (by omega), hrd, show (0 : Int) = ((0 : Nat) : Int) from rfl]
    rw [ref_l2 W k' (l0.length * W) W l n l0.length 0 x x (allBits W l0) (allBits_range W l0) (by omega) hW rfl (by omega) (by rw [allBits_length]; omega) (by rw [allBits_length]; omega) hx.1 hx.2 (by simp) (by omega), w64 (by omega) (by omega)]
    have e : allBits W l0 ++ bitsFrom x 0 W = allBits W (l0 ++ [x]) := by simp [allBits]
    have ih := ref_l1 l1 k' W l (l0 ++ [x]) n (by rw [he]; simp) hl hW hlen hn (by omega)
    rw [List.length_append, List.length_singleton] at ih
    rw [e, show (l0.length : Int) + 1 = ((l0.length + 1 : Nat) : Int) by omega]
    exact ih
theorem ref_l0 : ∀ (l1 : List Int) (k : Nat) (w : Int) (l l0 : List Int), l = l0 ++ l1 → (∀ x ∈ l, 0 ≤ x ∧ x ≤ 18446744073709551615) → 0 ≤ w → w ≤ 64 → l.length ≤ 1099511627776 → l1.length + l.length * (w.toNat + 2) + 80 ≤ k → (∀ x ∈ l0, (wd x.toNat : Int) ≤ w) →
    marquetryref01_Pack.l0 k w l (l0.length : Int) = some (PackR w l)
  | [], k, w, l, l0, he, hl, hw0, hw1, hlen, hk, hok => by
    obtain ⟨k, rfl⟩ : ∃ j, k = j + 1 := ⟨k - 1, by omega⟩
    rw [List.append_nil] at he
    subst he
    simp only [marquetryref01_Pack.l0]
    rw [if_neg (by omega), ref_size (by omega), Option.bind_some]
    unfold PackR
    rw [if_neg (by omega : ¬ (w < 0 ∨ w > 64)), if_pos hok]
    by_cases c3 : (SizeR w l.length).2 = 0
    · obtain ⟨h1, h2, h3, h4, h5, h6⟩ := SizeR_ok c3
      obtain ⟨W, rfl⟩ := Int.eq_ofNat_of_zero_le h1
      have hm : ((l.length * W : Nat) : Int) = (l.length : Int) * (W : Int) := Int.natCast_mul _ _
      have h7 : 0 ≤ (l.length : Int) * (W : Int) := by omega
      rw [if_pos c3, if_pos (by omega), if_pos (by omega), if_pos c3, h5]
      have := ref_l1 l k W l [] (((l.length : Int) * (W : Int) + 7) / 8).toNat rfl hl (by omega) (by omega) (by omega) (by simp at hk; omega)
      have e : allBits W [] = [] := rfl
      rw [e, packB_zero] at this
      refine Eq.trans (show _ = _ from this) ?_
      congr 2
      unfold packB
      rw [allBits_length]
      congr 2
    · rw [if_neg c3, if_neg c3]
  | x :: l1, k, w, l, l0, he, hl, hw0, hw1, hlen, hk, hok => by
    obtain ⟨k, rfl⟩ : ∃ j, k = j + 1 := ⟨k - 1, by omega⟩
    have hll : l.length = l0.length + (l1.length + 1) := by rw [he]; simp
    have hx := hl x (by rw [he]; simp)
    have hrd : rd l (l0.length : Int) = x := by
      unfold rd
      rw [he, List.getD_eq_getElem?_getD, show ((l0.length : Int)).toNat = l0.length from rfl, List.getElem?_append_right (Nat.le_refl _)]; simp
    simp only [marquetryref01_Pack.l0]
    rw [if_pos (by omega), if_pos (by omega), hrd, ref_width (by simp at hk; omega) hx.1 hx.2, Option.bind_some]
    by_cases c : (wd x.toNat : Int) > w
    · rw [if_pos c]
      unfold PackR
      rw [if_neg (by omega : ¬ (w < 0 ∨ w > 64)), if_neg (by intro h; have := h x (by rw [he]; simp); omega)]
    · rw [if_neg c, w64 (by omega) (by omega)]
      have ih := ref_l0 l1 k w l (l0 ++ [x]) (by rw [he]; simp) hl hw0 hw1 hlen (by simp at hk; omega) (by
        intro y hy
        rcases List.mem_append.1 hy with hy | hy
        · exact hok y hy
        · rw [List.mem_singleton.1 hy]; omega)
      rw [List.length_append, List.length_singleton] at ih
      rw [show (l0.length : Int) + 1 = ((l0.length + 1 : Nat) : Int) by omega]
      exact ih
theorem ref_pack {k : Nat} {w : Int} {l : List Int} (hk : l.length * 67 + 82 ≤ k) (hl : ∀ x ∈ l, 0 ≤ x ∧ x ≤ 18446744073709551615) (hlen : l.length ≤ 1099511627776) : marquetryref01_Pack.f k w l = some (PackR w l) := by
  obtain ⟨k, rfl⟩ : ∃ j, k = j + 1 := ⟨k - 1, by omega⟩
  unfold marquetryref01_Pack.f
  simp only [marquetryref01_Pack.j0]
  by_cases c0 : w < 0
  · rw [if_pos c0, if_pos trivial]; unfold PackR; rw [if_pos (.inl c0)]
  rw [if_neg c0]
  by_cases c1 : w > 64
  · rw [if_pos (by simpa using c1)]; unfold PackR; rw [if_pos (.inr c1)]
  rw [if_neg (by simpa using c1)]
  have hmul : l.length * (w.toNat + 2) ≤ l.length * 66 := Nat.mul_le_mul_left _ (by omega)
  have := ref_l0 l k w l [] rfl hl (by omega) (by omega) hlen (by omega) (by simp)
  simpa using this
end Go.Proofs.Ytpibhiacmceekaa.L1
