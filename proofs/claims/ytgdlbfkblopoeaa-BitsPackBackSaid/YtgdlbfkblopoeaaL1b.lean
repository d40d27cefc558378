/- Layer 1: what is packed is unpacked as it was, what is unpacked is packed as it was. -/
import Derived.Test.YtgdlbfkblopoeaaL1u
namespace Go.Proofs.Ytgdlbfkblopoeaa.L1
set_option linter.unusedVariables false
set_option linter.unusedSimpArgs false
open Go.RowKit Go.Proofs.Ytgdlbfkblopoeaa.X Go.Proofs.YtgdlbfkblopoeaaW.PrintWords Go.Proofs.YtgdlbfkblopoeaaW.PrintLast Go.Proofs.YtgdlbfkblopoeaaW.PrintMore Go.Proofs.Ytgdlbfkblopoeaa.Bx Go.Proofs.Ytgdlbfkblopoeaa.Nx Go.Proofs.Ytgdlbfkblopoeaa.Px

theorem valF_digits (g : Nat → Int) (X : Nat) : ∀ (d P c : Nat), (∀ t, t < d → g (P + t) = ((X / 2 ^ (c + t) % 2 : Nat) : Int)) → valF g P d = ((X / 2 ^ c % 2 ^ d : Nat) : Int)
  | 0, P, c, h => by simp [valF, Nat.mod_one]
  | d + 1, P, c, h => by
    have h0 := h 0 (by omega)
    rw [Nat.add_zero, Nat.add_zero] at h0
    have ih := valF_digits g X d (P + 1) (c + 1) (fun t ht => by
      have := h (t + 1) (by omega)
      rwa [show P + (t + 1) = P + 1 + t by omega, show c + (t + 1) = c + 1 + t by omega] at this)
    have e : X / 2 ^ c / 2 = X / 2 ^ (c + 1) := by rw [Nat.div_div_eq_div_mul, Nat.pow_succ]
    have e2 : X / 2 ^ c % 2 ^ (d + 1) = X / 2 ^ c % 2 + 2 * (X / 2 ^ (c + 1) % 2 ^ d) := by rw [Nat.pow_succ 2 d, Nat.mul_comm (2 ^ d) 2, Nat.mod_mul, e]
    rw [valF, ih, h0, e2]
    generalize X / 2 ^ c % 2 = u
    generalize X / 2 ^ (c + 1) % 2 ^ d = v
    omega
theorem bitsFrom_get (n : Int) : ∀ (d i c : Nat), c < d → (bitsFrom n i d).getD c 0 = n / 2 ^ (i + c) % 2
  | 0, _, c, h => absurd h (by omega)
  | d + 1, i, 0, h => by simp [bitsFrom]
  | d + 1, i, c + 1, h => by
    have := bitsFrom_get n d (i + 1) c (by omega)
    rw [show i + 1 + c = i + (c + 1) by omega] at this
    rw [bitsFrom, ← this]; simp
theorem allBits_get (W : Nat) : ∀ (l : List Int) (i c : Nat), i < l.length → c < W → (allBits W l).getD (i * W + c) 0 = l.getD i 0 / 2 ^ c % 2
  | [], i, c, h, _ => absurd h (by simp)
  | x :: l, 0, c, h, hc => by
    rw [allBits_cons, List.getD_eq_getElem?_getD, List.getElem?_append_left (by rw [bitsFrom_length]; omega), ← List.getD_eq_getElem?_getD, Nat.zero_mul, Nat.zero_add, bitsFrom_get x W 0 c hc, Nat.zero_add]; rfl
  | x :: l, i + 1, c, h, hc => by
    have := allBits_get W l i c (by simpa using h) hc
    rw [allBits_cons, List.getD_eq_getElem?_getD, List.getElem?_append_right (by rw [bitsFrom_length, Nat.add_mul]; omega), ← List.getD_eq_getElem?_getD, bitsFrom_length, show (i + 1) * W + c - W = i * W + c by rw [Nat.add_mul]; omega, this]; simp
theorem eight_bits {x0 x1 x2 x3 x4 x5 x6 x7 : Int} (h0 : x0 = 0 ∨ x0 = 1) (h1 : x1 = 0 ∨ x1 = 1) (h2 : x2 = 0 ∨ x2 = 1) (h3 : x3 = 0 ∨ x3 = 1) (h4 : x4 = 0 ∨ x4 = 1) (h5 : x5 = 0 ∨ x5 = 1) (h6 : x6 = 0 ∨ x6 = 1) (h7 : x7 = 0 ∨ x7 = 1) :
    (x0 + 2 * x1 + 4 * x2 + 8 * x3 + 16 * x4 + 32 * x5 + 64 * x6 + 128 * x7) / 1 % 2 = x0 ∧ (x0 + 2 * x1 + 4 * x2 + 8 * x3 + 16 * x4 + 32 * x5 + 64 * x6 + 128 * x7) / 2 % 2 = x1 ∧ (x0 + 2 * x1 + 4 * x2 + 8 * x3 + 16 * x4 + 32 * x5 + 64 * x6 + 128 * x7) / 4 % 2 = x2 ∧ (x0 + 2 * x1 + 4 * x2 + 8 * x3 + 16 * x4 + 32 * x5 + 64 * x6 + 128 * x7) / 8 % 2 = x3 ∧
    (x0 + 2 * x1 + 4 * x2 + 8 * x3 + 16 * x4 + 32 * x5 + 64 * x6 + 128 * x7) / 16 % 2 = x4 ∧ (x0 + 2 * x1 + 4 * x2 + 8 * x3 + 16 * x4 + 32 * x5 + 64 * x6 + 128 * x7) / 32 % 2 = x5 ∧ (x0 + 2 * x1 + 4 * x2 + 8 * x3 + 16 * x4 + 32 * x5 + 64 * x6 + 128 * x7) / 64 % 2 = x6 ∧ (x0 + 2 * x1 + 4 * x2 + 8 * x3 + 16 * x4 + 32 * x5 + 64 * x6 + 128 * x7) / 128 % 2 = x7 := by
  have a0 : 0 ≤ x0 ∧ x0 ≤ 1 := by omega
  have a1 : 0 ≤ x1 ∧ x1 ≤ 1 := by omega
  have a2 : 0 ≤ x2 ∧ x2 ≤ 1 := by omega
  have a3 : 0 ≤ x3 ∧ x3 ≤ 1 := by omega
  have a4 : 0 ≤ x4 ∧ x4 ≤ 1 := by omega
  have a5 : 0 ≤ x5 ∧ x5 ≤ 1 := by omega
  have a6 : 0 ≤ x6 ∧ x6 ≤ 1 := by omega
  have a7 : 0 ≤ x7 ∧ x7 ≤ 1 := by omega
  clear h0 h1 h2 h3 h4 h5 h6 h7
  refine ⟨by omega, by omega, by omega, by omega, by omega, by omega, by omega, by omega⟩
theorem byteAt_bit {B : List Int} (hB : ∀ b ∈ B, b = 0 ∨ b = 1) (j t : Nat) (ht : t < 8) : byteAt B j / 2 ^ t % 2 = B.getD (8 * j + t) 0 := by
  have h := eight_bits (getD_bit hB (8 * j)) (getD_bit hB (8 * j + 1)) (getD_bit hB (8 * j + 2)) (getD_bit hB (8 * j + 3)) (getD_bit hB (8 * j + 4)) (getD_bit hB (8 * j + 5)) (getD_bit hB (8 * j + 6)) (getD_bit hB (8 * j + 7))
  have : t = 0 ∨ t = 1 ∨ t = 2 ∨ t = 3 ∨ t = 4 ∨ t = 5 ∨ t = 6 ∨ t = 7 := by omega
  rcases this with rfl | rfl | rfl | rfl | rfl | rfl | rfl | rfl
  · exact h.1
  · exact h.2.1
  · exact h.2.2.1
  · exact h.2.2.2.1
  · exact h.2.2.2.2.1
  · exact h.2.2.2.2.2.1
  · exact h.2.2.2.2.2.2.1
  · exact h.2.2.2.2.2.2.2
theorem bt_packB {B : List Int} (hB : ∀ b ∈ B, b = 0 ∨ b = 1) (i : Nat) : bt (packB B) i = B.getD i 0 := by
  unfold bt packB
  rw [List.getD_eq_getElem?_getD, List.getElem?_map]
  by_cases h : i / 8 < (B.length + 7) / 8
  · rw [List.getElem?_range h]
    have := byteAt_bit hB (i / 8) (i % 8) (by omega)
    rw [show 8 * (i / 8) + i % 8 = i by omega] at this
    exact this
  · rw [List.getElem?_eq_none (by simp; omega), getD_out B (by omega)]
    simp
theorem byte_bits {x : Int} (h : 0 ≤ x ∧ x ≤ 255) : x / 1 % 2 + 2 * (x / 2 % 2) + 4 * (x / 4 % 2) + 8 * (x / 8 % 2) + 16 * (x / 16 % 2) + 32 * (x / 32 % 2) + 64 * (x / 64 % 2) + 128 * (x / 128 % 2) = x := by omega
theorem byteAt_bt {b B : List Int} (hb : ∀ x ∈ b, 0 ≤ x ∧ x ≤ 255) (h : ∀ i, B.getD i 0 = bt b i) (j : Nat) : byteAt B j = b.getD j 0 := by
  unfold byteAt
  simp only [h]
  unfold bt
  rw [show (8 * j) / 8 = j by omega, show (8 * j) % 8 = 0 by omega, show (8 * j + 1) / 8 = j by omega, show (8 * j + 1) % 8 = 1 by omega, show (8 * j + 2) / 8 = j by omega, show (8 * j + 2) % 8 = 2 by omega, show (8 * j + 3) / 8 = j by omega, show (8 * j + 3) % 8 = 3 by omega,
    show (8 * j + 4) / 8 = j by omega, show (8 * j + 4) % 8 = 4 by omega, show (8 * j + 5) / 8 = j by omega, show (8 * j + 5) % 8 = 5 by omega, show (8 * j + 6) / 8 = j by omega, show (8 * j + 6) % 8 = 6 by omega, show (8 * j + 7) / 8 = j by omega, show (8 * j + 7) % 8 = 7 by omega]
  exact byte_bits (getD_u8 hb j)
theorem packB_back {b B : List Int} (hb : ∀ x ∈ b, 0 ≤ x ∧ x ≤ 255) (hl : b.length = (B.length + 7) / 8) (h : ∀ i, B.getD i 0 = bt b i) : packB B = b := by
  apply List.ext_getElem
  · rw [packB_length, hl]
  · intro j h1 h2
    simp only [packB, List.getElem_map, List.getElem_range]
    rw [byteAt_bt hb h, List.getD_eq_getElem?_getD, List.getElem?_eq_getElem h2]; rfl
theorem bt_out {b : List Int} {i : Nat} (h : 8 * b.length ≤ i) : bt b i = 0 := by
  unfold bt
  rw [getD_out b (by omega)]; simp

theorem packB_u8 {B : List Int} (hB : ∀ b ∈ B, b = 0 ∨ b = 1) : ∀ x ∈ packB B, 0 ≤ x ∧ x ≤ 255 := by
  intro x hx
  obtain ⟨j, _, rfl⟩ := List.mem_map.1 hx
  exact byteAt_range hB j
theorem valF_bit {g : Nat → Int} (hg : ∀ i, g i = 0 ∨ g i = 1) : ∀ (d P t : Nat), t < d → valF g P d / 2 ^ t % 2 = g (P + t)
  | 0, _, _, h => absurd h (by omega)
  | d + 1, P, 0, h => by
    have := hg P
    show _ = g P
    rw [valF, Int.pow_zero, Int.ediv_one]; omega
  | d + 1, P, t + 1, h => by
    have ih := valF_bit hg d (P + 1) t (by omega)
    have := hg P
    have e : valF g P (d + 1) / 2 = valF g (P + 1) d := by rw [valF]; omega
    rw [show P + (t + 1) = P + 1 + t by omega, ← ih, ← e, Int.pow_succ, Int.mul_comm, Int.ediv_ediv_of_nonneg (by decide)]
/-- Packed and unpacked. -/
theorem unpack_pack {w : Int} {l : List Int} (hl : ∀ x ∈ l, 0 ≤ x ∧ x ≤ 18446744073709551615) (h : (PackR w l).2 = 0) : UnpackR (PackR w l).1 w (l.length : Int) = (l, 0) ∧ (∀ x ∈ (PackR w l).1, 0 ≤ x ∧ x ≤ 255) ∧ (PackR w l).1.length ≤ 1048576 := by
  unfold PackR at h ⊢
  by_cases c0 : w < 0 ∨ w > 64
  · rw [if_pos c0] at h; simp at h
  rw [if_neg c0] at h ⊢
  by_cases c1 : ∀ x ∈ l, (wd x.toNat : Int) ≤ w
  · rw [if_pos c1] at h ⊢
    by_cases c2 : (SizeR w l.length).2 = 0
    · rw [if_pos c2] at h ⊢
      obtain ⟨h1, h2, h3, h4, h5, h6⟩ := SizeR_ok c2
      obtain ⟨W, rfl⟩ := Int.eq_ofNat_of_zero_le h1
      have hm : ((l.length * W : Nat) : Int) = (l.length : Int) * (W : Int) := Int.natCast_mul _ _
      simp only [show ((W : Int)).toNat = W from rfl]
      have hB := allBits_range W l
      have hpl : (packB (allBits W l)).length = (l.length * W + 7) / 8 := by rw [packB_length, allBits_length]
      refine ⟨?_, packB_u8 hB, by omega⟩
      unfold UnpackR
      rw [if_pos c2, if_neg (by omega), if_neg (by omega), if_pos]
      · congr 1
        simp only [show ((W : Int)).toNat = W from rfl, show ((l.length : Int)).toNat = l.length from rfl]
        apply List.ext_getElem
        · rw [outF_length]
        · intro i q1 q2
          simp only [outF, List.getElem_map, List.getElem_range]
          have hle : (i + 1) * W ≤ l.length * W := Nat.mul_le_mul_right _ q2
          rw [Nat.add_mul] at hle
          rw [show min W (l.length * W - i * W) = W by omega]
          have hx := hl _ (List.getElem_mem q2)
          obtain ⟨X, hX⟩ := Int.eq_ofNat_of_zero_le hx.1
          have hwd := c1 _ (List.getElem_mem q2)
          rw [hX, show ((X : Int)).toNat = X from rfl] at hwd
          have hX2 := (wd_le W X).1 (by omega)
          rw [valF_digits _ X W (i * W) 0 (fun t ht => ?_), Nat.pow_zero, Nat.div_one, Nat.mod_eq_of_lt hX2, hX]
          rw [bt_packB hB, allBits_get W l i t q2 ht, List.getD_eq_getElem?_getD, List.getElem?_eq_getElem q2, Option.getD_some, hX, Nat.zero_add]
          simp
      · intro j hj
        rw [bt_packB hB, getD_out _ (by rw [allBits_length]; simp only [show ((W : Int)).toNat = W from rfl, show ((l.length : Int)).toNat = l.length from rfl]; omega)]
    · rw [if_neg c2] at h; exact absurd h c2
  · rw [if_neg c1] at h; simp at h
theorem UnpackR_bad {b : List Int} {w n : Int} (h : (UnpackR b w n).2 ≠ 0) : (UnpackR b w n).1 = [] := by
  unfold UnpackR at h ⊢
  split
  · rename_i c
    rw [if_pos c] at h
    split
    · rfl
    · rename_i d
      rw [if_neg d] at h
      split
      · rfl
      · rename_i e
        rw [if_neg e] at h
        split
        · rename_i f
          rw [if_pos f] at h; exact absurd rfl h
        · rfl
  · rfl
/-- Unpacked and packed. -/
theorem pack_unpack {b : List Int} {w n : Int} (hb : ∀ x ∈ b, 0 ≤ x ∧ x ≤ 255) (h : (UnpackR b w n).2 = 0) : PackR w (UnpackR b w n).1 = (b, 0) ∧ ∀ x ∈ (UnpackR b w n).1, 0 ≤ x ∧ x ≤ 18446744073709551615 := by
  unfold UnpackR at h ⊢
  by_cases c : (SizeR w n).2 = 0
  · rw [if_pos c] at h ⊢
    obtain ⟨h1, h2, h3, h4, h5, h6⟩ := SizeR_ok c
    obtain ⟨W, rfl⟩ := Int.eq_ofNat_of_zero_le h1
    obtain ⟨m, rfl⟩ := Int.eq_ofNat_of_zero_le h3
    have hm : ((m * W : Nat) : Int) = (m : Int) * (W : Int) := Int.natCast_mul _ _
    by_cases d : (b.length : Int) < (SizeR (W : Int) (m : Int)).1
    · rw [if_pos d] at h; simp at h
    rw [if_neg d] at h ⊢
    by_cases e : (SizeR (W : Int) (m : Int)).1 < (b.length : Int)
    · rw [if_pos e] at h; simp at h
    rw [if_neg e] at h ⊢
    simp only [show ((W : Int)).toNat = W from rfl, show ((m : Int)).toNat = m from rfl] at h ⊢
    by_cases z : ∀ j, j < 8 * b.length - m * W → bt b (m * W + j) = 0
    · rw [if_pos z] at h ⊢
      simp only
      have hval : ∀ i (hi : i < (outF (bt b) W m (m * W)).length), (outF (bt b) W m (m * W))[i] = valF (bt b) (i * W) W := by
        intro i hi
        rw [outF_length] at hi
        simp only [outF, List.getElem_map, List.getElem_range]
        have hle : (i + 1) * W ≤ m * W := Nat.mul_le_mul_right _ hi
        rw [Nat.add_mul] at hle
        rw [show min W (m * W - i * W) = W by omega]
      have hlt : ∀ x ∈ outF (bt b) W m (m * W), 0 ≤ x ∧ x < 2 ^ W := by
        intro x hx
        obtain ⟨i, hi, rfl⟩ := List.getElem_of_mem hx
        rw [hval i hi]
        exact valF_range (bt_range b) _ _
      have hp : (2 : Int) ^ W ≤ 2 ^ 64 := by
        have := Nat.pow_le_pow_right (n := 2) (by decide) (show W ≤ 64 by omega)
        have e : ∀ n : Nat, ((2 ^ n : Nat) : Int) = (2 : Int) ^ n := fun n => by simp
        rw [← e, ← e]; exact Int.ofNat_le.2 this
      have e64 : (2 : Int) ^ 64 = 18446744073709551616 := by decide
      refine ⟨?_, fun x hx => by have := hlt x hx; omega⟩
      unfold PackR
      rw [if_neg (by omega), if_pos, outF_length, if_pos c]
      · congr 1
        rw [show ((W : Int)).toNat = W from rfl]
        refine packB_back hb (by rw [allBits_length, outF_length]; omega) fun i => ?_
        by_cases hi : i < m * W
        · have hW : 0 < W := by
            rcases Nat.eq_zero_or_pos W with e | e
            · subst e; omega
            · exact e
          have hq : i / W < m := (Nat.div_lt_iff_lt_mul hW).2 hi
          have hr : i % W < W := Nat.mod_lt _ hW
          have hdm : i / W * W + i % W = i := by have := Nat.div_add_mod i W; rw [Nat.mul_comm] at this; exact this
          have ha := allBits_get W (outF (bt b) W m (m * W)) (i / W) (i % W) (by rw [outF_length]; exact hq) hr
          rw [hdm] at ha
          rw [ha, List.getD_eq_getElem?_getD, List.getElem?_eq_getElem (by rw [outF_length]; exact hq), Option.getD_some, hval, valF_bit (bt_range b) W (i / W * W) (i % W) hr, hdm]
        · rw [getD_out _ (by rw [allBits_length, outF_length]; omega)]
          rcases Nat.lt_or_ge i (8 * b.length) with q | q
          · have := z (i - m * W) (by omega)
            rw [show m * W + (i - m * W) = i by omega] at this
            exact this.symm
          · exact (bt_out q).symm
      · intro x hx
        have := hlt x hx
        obtain ⟨X, rfl⟩ := Int.eq_ofNat_of_zero_le this.1
        rw [show ((X : Int)).toNat = X from rfl]
        have e : ∀ n : Nat, ((2 ^ n : Nat) : Int) = (2 : Int) ^ n := fun n => by simp
        have h2 := this.2
        rw [← e] at h2
        have := (wd_le W X).2 (Int.ofNat_lt.1 h2)
        omega
    · rw [if_neg z] at h; simp at h
  · rw [if_neg c] at h; exact absurd h c
end Go.Proofs.Ytgdlbfkblopoeaa.L1
