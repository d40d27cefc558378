/- DeltaBounds: texts of this seat in one (wip/merge.py): Px, Ma, Mc, Md, Me, Mf, Ga, Gb, X39, Rd. -/
import Derived.Test.YtbncfhmfohpfbaaGDeltaBounds2
import Derived.Test.YtbncfhmfohpfbaaGDeltaBounds0
import Derived.Lib.BitFns
import Derived.Laws.MathBits
import Derived.Test.YtbncfhmfohpfbaaGDeltaBounds1
import Derived.Deep.RegionHeld3
import Derived.Deep.Slices
import Derived.Lib.SmallJoins
import Derived.SizedLaws
section
namespace Go.Proofs.Ytbncfhmfohpfbaa.Px
set_option linter.unusedVariables false
set_option linter.unusedSimpArgs false
open Go.RowKit Go.Proofs.Ytbncfhmfohpfbaa.Bx Go.Proofs.Ytbncfhmfohpfbaa.Nx
def bitsFrom (n : Int) : Nat → Nat → List Int
  | _, 0 => []
  | i, d + 1 => n / 2 ^ i % 2 :: bitsFrom n (i + 1) d
theorem bitsFrom_length (n : Int) : ∀ d i, (bitsFrom n i d).length = d
  | 0, _ => rfl
  | d + 1, i => by simp [bitsFrom, bitsFrom_length n d]
theorem bitsFrom_range (n : Int) : ∀ d i, ∀ b ∈ bitsFrom n i d, b = 0 ∨ b = 1
  | 0, _, b, h => by simp [bitsFrom] at h
  | d + 1, i, b, h => by
    simp only [bitsFrom, List.mem_cons] at h
    rcases h with rfl | h
    · omega
    · exact bitsFrom_range n d _ b h
def allBits (w : Nat) (l : List Int) : List Int := l.flatMap fun x => bitsFrom x 0 w
theorem allBits_cons (w : Nat) (x : Int) (l : List Int) : allBits w (x :: l) = bitsFrom x 0 w ++ allBits w l := by simp [allBits]
theorem allBits_length (w : Nat) : ∀ l, (allBits w l).length = l.length * w
  | [] => by simp [allBits]
  | x :: l => by rw [allBits_cons, List.length_append, bitsFrom_length, allBits_length w l, List.length_cons, Nat.add_mul]; omega
theorem allBits_range (w : Nat) (l : List Int) : ∀ b ∈ allBits w l, b = 0 ∨ b = 1 := by
  intro b h
  obtain ⟨x, _, hx⟩ := List.mem_flatMap.1 h
  exact bitsFrom_range x w 0 b hx
def byteAt (B : List Int) (j : Nat) : Int :=
  B.getD (8 * j) 0 + 2 * B.getD (8 * j + 1) 0 + 4 * B.getD (8 * j + 2) 0 + 8 * B.getD (8 * j + 3) 0 + 16 * B.getD (8 * j + 4) 0 + 32 * B.getD (8 * j + 5) 0 + 64 * B.getD (8 * j + 6) 0 + 128 * B.getD (8 * j + 7) 0
def packB (B : List Int) : List Int := (List.range ((B.length + 7) / 8)).map (byteAt B)
theorem packB_length (B : List Int) : (packB B).length = (B.length + 7) / 8 := by simp [packB]
theorem getD_snoc (B : List Int) (b : Int) (m : Nat) : (B ++ [b]).getD m 0 = if m = B.length then b else B.getD m 0 := by
  simp only [List.getD_eq_getElem?_getD]
  by_cases h : m = B.length
  · subst h; simp
  · rw [if_neg h]
    rcases Nat.lt_or_ge m B.length with h1 | h1
    · rw [List.getElem?_append_left h1]
    · rw [List.getElem?_append_right h1, List.getElem?_eq_none (by simp; omega), List.getElem?_eq_none h1]
theorem getD_out (B : List Int) {m : Nat} (h : B.length ≤ m) : B.getD m 0 = 0 := by
  rw [List.getD_eq_getElem?_getD, List.getElem?_eq_none h]; rfl
theorem getD_bit {B : List Int} (hB : ∀ b ∈ B, b = 0 ∨ b = 1) (m : Nat) : B.getD m 0 = 0 ∨ B.getD m 0 = 1 := by
  rw [List.getD_eq_getElem?_getD]
  by_cases h : m < B.length
  · rw [List.getElem?_eq_getElem h]; exact hB _ (List.getElem_mem h)
  · rw [List.getElem?_eq_none (by omega)]; exact .inl rfl
theorem byteAt_snoc (B : List Int) (b : Int) (j : Nat) : byteAt (B ++ [b]) j = byteAt B j + if j = B.length / 8 then b * 2 ^ (B.length % 8) else 0 := by
  unfold byteAt
  simp only [getD_snoc]
  by_cases h : j = B.length / 8
  · rw [if_pos h]
    have q : ∀ t, (8 * j + t = B.length) = (t = B.length % 8) := fun t => propext (by omega)
    have q0 : (8 * j = B.length) = (0 = B.length % 8) := propext (by omega)
    have o := fun m => getD_out B (m := m)
    have o0 := o (8 * j); have o1 := o (8 * j + 1); have o2 := o (8 * j + 2); have o3 := o (8 * j + 3); have o4 := o (8 * j + 4); have o5 := o (8 * j + 5); have o6 := o (8 * j + 6); have o7 := o (8 * j + 7)
    have hr : B.length % 8 = 0 ∨ B.length % 8 = 1 ∨ B.length % 8 = 2 ∨ B.length % 8 = 3 ∨ B.length % 8 = 4 ∨ B.length % 8 = 5 ∨ B.length % 8 = 6 ∨ B.length % 8 = 7 := by omega
    simp only [q, q0]
    rcases hr with e | e | e | e | e | e | e | e <;> rw [e] <;> simp (config := { decide := true }) only [if_true, if_false, Int.reducePow, Int.pow_zero] <;> omega
  · rw [if_neg h]
    have : ∀ t, t < 8 → 8 * j + t ≠ B.length := by omega
    rw [if_neg (by simpa using this 0 (by omega)), if_neg (this 1 (by omega)), if_neg (this 2 (by omega)), if_neg (this 3 (by omega)), if_neg (this 4 (by omega)), if_neg (this 5 (by omega)), if_neg (this 6 (by omega)), if_neg (this 7 (by omega))]
    omega
theorem byteAt_range {B : List Int} (hB : ∀ b ∈ B, b = 0 ∨ b = 1) (j : Nat) : 0 ≤ byteAt B j ∧ byteAt B j ≤ 255 := by
  unfold byteAt
  have g := getD_bit hB
  have g0 := g (8 * j); have g1 := g (8 * j + 1); have g2 := g (8 * j + 2); have g3 := g (8 * j + 3); have g4 := g (8 * j + 4); have g5 := g (8 * j + 5); have g6 := g (8 * j + 6); have g7 := g (8 * j + 7)
  omega
theorem byteAt_last {B : List Int} (hB : ∀ b ∈ B, b = 0 ∨ b = 1) : byteAt B (B.length / 8) < 2 ^ (B.length % 8) := by
  unfold byteAt
  have g := getD_bit hB
  have o := fun m => getD_out B (m := m)
  generalize hj : B.length / 8 = j
  have g0 := g (8 * j); have g1 := g (8 * j + 1); have g2 := g (8 * j + 2); have g3 := g (8 * j + 3); have g4 := g (8 * j + 4); have g5 := g (8 * j + 5); have g6 := g (8 * j + 6); have g7 := g (8 * j + 7)
  have o0 := o (8 * j); have o1 := o (8 * j + 1); have o2 := o (8 * j + 2); have o3 := o (8 * j + 3); have o4 := o (8 * j + 4); have o5 := o (8 * j + 5); have o6 := o (8 * j + 6); have o7 := o (8 * j + 7)
  have hr : B.length % 8 = 0 ∨ B.length % 8 = 1 ∨ B.length % 8 = 2 ∨ B.length % 8 = 3 ∨ B.length % 8 = 4 ∨ B.length % 8 = 5 ∨ B.length % 8 = 6 ∨ B.length % 8 = 7 := by omega
  rcases hr with e | e | e | e | e | e | e | e <;> rw [e] <;> simp only [Int.reducePow, Int.pow_zero] <;> omega
theorem packB_range {B : List Int} (hB : ∀ b ∈ B, b = 0 ∨ b = 1) : ∀ x ∈ packB B, 0 ≤ x ∧ x ≤ 255 := by
  intro x hx
  obtain ⟨j, _, rfl⟩ := List.mem_map.1 hx
  exact byteAt_range hB j
theorem map_set (B : List Int) (b : Int) (n : Nat) (h : B.length / 8 < n) :
    ((List.range n).map (byteAt B)).set (B.length / 8) (byteAt B (B.length / 8) + b * 2 ^ (B.length % 8)) = (List.range n).map (byteAt (B ++ [b])) := by
  apply List.ext_getElem?
  intro j
  rw [List.getElem?_set]
  by_cases e : B.length / 8 = j
  · subst e
    simp [h, byteAt_snoc]
  · rw [if_neg e]
    simp only [List.getElem?_map]
    rcases Nat.lt_or_ge j n with hj | hj
    · rw [List.getElem?_range hj]
      simp only [Option.map_some, byteAt_snoc]; rw [if_neg (fun h : j = B.length / 8 => e h.symm)]; simp
    · rw [List.getElem?_eq_none (by simpa using hj)]; rfl
theorem packB_zero (n : Nat) : (List.range n).map (byteAt []) = List.replicate n 0 := by
  apply List.ext_getElem?
  intro j
  simp only [List.getElem?_map]
  rcases Nat.lt_or_ge j n with hj | hj
  · rw [List.getElem?_range hj]; simp [hj, byteAt]
  · rw [List.getElem?_eq_none (by simpa using hj)]; simp [hj]
end Go.Proofs.Ytbncfhmfohpfbaa.Px
end

section
namespace Go.Proofs.Ytbncfhmfohpfbaa.D13
set_option linter.unusedVariables false
set_option linter.unusedSimpArgs false
open Go.RowKit Go.Proofs.Ytbncfhmfohpfbaa.X Go.Proofs.YtbncfhmfohpfbaaW.PrintWords Go.Proofs.YtbncfhmfohpfbaaW.PrintLast Go.Proofs.YtbncfhmfohpfbaaW.PrintMore Go.Proofs.Ytbncfhmfohpfbaa.Bx Go.Proofs.Ytbncfhmfohpfbaa.Nx
def vb (n : Nat) : List Int := if n < 128 then [(n : Int)] else ((n % 128 + 128 : Nat) : Int) :: vb (n / 128)
termination_by n
decreasing_by omega
theorem vb_small {n : Nat} (h : n < 128) : vb n = [(n : Int)] := by rw [vb, if_pos h]
theorem vb_big {n : Nat} (h : 128 ≤ n) : vb n = ((n % 128 + 128 : Nat) : Int) :: vb (n / 128) := by rw [vb, if_neg (by omega)]
theorem vb_length : ∀ (d : Nat) (n : Nat), n < 128 ^ (d + 1) → 1 ≤ (vb n).length ∧ (vb n).length ≤ d + 1
  | 0, n, h => by rw [vb_small (by simpa using h)]; simp
  | d + 1, n, h => by
    by_cases c : n < 128
    · rw [vb_small c]; simp
    · rw [vb_big (by omega)]
      have := vb_length d (n / 128) (by rw [Nat.pow_succ] at h; omega)
      simp; omega
theorem vb_length64 {n : Nat} (h : n < 18446744073709551616) : 1 ≤ (vb n).length ∧ (vb n).length ≤ 10 := vb_length 9 n (by omega)
theorem vb_range : ∀ (n : Nat), ∀ x ∈ vb n, 0 ≤ x ∧ x ≤ 255 := by
  intro n
  induction n using Nat.strongRecOn with
  | _ n ih =>
    intro x hx
    by_cases c : n < 128
    · rw [vb_small c] at hx; simp at hx; omega
    · rw [vb_big (by omega), List.mem_cons] at hx
      rcases hx with rfl | hx
      · omega
      · exact ih (n / 128) (by omega) x hx
set_option maxRecDepth 10000 in
theorem or_128_u8 {y : Int} (h0 : 0 ≤ y) (h1 : y ≤ 255) : bits .or .u8 y 128 = y % 128 + 128 := by
  obtain ⟨a, rfl⟩ := Int.eq_ofNat_of_zero_le h0
  have e := (bits_nat .u8 8 (by decide) wraps_u8 a 128 (by omega) (by decide)).2
  have e2 : ((128 : Nat) : Int) = 128 := rfl
  rw [e2] at e
  have k : ∀ b : Fin 256, b.val ||| 128 = b.val % 128 + 128 := by decide
  have := k ⟨a, by omega⟩
  simp only [] at this
  rw [e, this]; omega
theorem number_l : ∀ (k : Nat) (acc : List Int) (x : Int), 0 ≤ x → x ≤ 18446744073709551615 → acc.length + (vb x.toNat).length < 140737488355328 → (vb x.toNat).length ≤ k → delta_number.l0 k acc x = some (acc ++ vb x.toNat)
  | 0, acc, x, _, _, _, h => by
    exfalso
    by_cases c : x.toNat < 128
    · rw [vb_small c] at h; simp at h
    · rw [vb_big (by omega)] at h; simp at h
  | k + 1, acc, x, h0, h1, h2, h => by
    rw [delta_number.l0, or_128_u8 (by omega) (by omega)]
    by_cases c : x ≥ 128
    · have e := vb_big (n := x.toNat) (by omega)
      rw [e, List.length_cons] at h h2
      rw [if_pos c, if_pos (by omega), e]
      have q : (x / 128).toNat = x.toNat / 128 := by omega
      rw [number_l k _ (x / 128) (by omega) (by omega) (by rw [q]; simp; omega) (by rw [q]; omega), q]
      have r : x % 256 % 128 + 128 = ((x.toNat % 128 + 128 : Nat) : Int) := by omega
      rw [r]; simp
    · have e := vb_small (n := x.toNat) (by omega)
      rw [e, List.length_singleton] at h2
      rw [if_neg c, if_pos (by omega), e, show x % 256 = ((x.toNat : Nat) : Int) by omega]
theorem number {k : Nat} {acc : List Int} {x : Int} (hk : 10 ≤ k) (ha : acc.length ≤ 100000000000) (h0 : 0 ≤ x) (h1 : x ≤ 18446744073709551615) : delta_number.f k acc x = some (acc ++ vb x.toNat) := by
  have := vb_length64 (n := x.toNat) (by omega)
  exact number_l k acc x h0 h1 (by omega) (by omega)
def zz (y : Int) : Int := if 0 ≤ y then 2 * y else -2 * y - 1
theorem zz_range {y : Int} (h : -9223372036854775808 ≤ y) (h' : y ≤ 9223372036854775807) : 0 ≤ zz y ∧ zz y ≤ 18446744073709551615 := by unfold zz; split <;> omega
theorem signed {k : Nat} {acc : List Int} {y : Int} (hk : 10 ≤ k) (ha : acc.length ≤ 100000000000) (h : -9223372036854775808 ≤ y) (h' : y ≤ 9223372036854775807) : delta_signed.f k acc y = some (acc ++ vb (zz y).toNat) := by
  unfold delta_signed.f
  have e : bits .xor .u64 (IntKind.u64.wrap (IntKind.u64.wrap y * 2)) (IntKind.u64.wrap (y / 9223372036854775808)) = zz y := by
    unfold zz
    by_cases c : 0 ≤ y
    · rw [if_pos c, show y / 9223372036854775808 = 0 by omega, show IntKind.u64.wrap 0 = 0 by rfl, xor_zero_u64, u64w, u64w]
      omega
    · rw [if_neg c, show y / 9223372036854775808 = -1 by omega, show IntKind.u64.wrap (-1) = 18446744073709551615 by rfl, xor_ones_u64, u64w, u64w]
      omega
  rw [e, number hk ha (zz_range h h').1 (zz_range h h').2]; rfl
theorem and_127_u8 (x : Int) (h0 : 0 ≤ x) (h1 : x ≤ 255) : bits .and .u8 x 127 = x % 128 := bits_mask .u8 8 (by decide) wraps_u8 7 (by decide) x h0 (by omega)
theorem numN_eq {n x : Int} {j : Nat} (h0 : 0 ≤ n) (h1 : n < 2 ^ (7 * j)) (x0 : 0 ≤ x) (x1 : x ≤ 255) (hb : (x % 128) * 2 ^ (7 * j) < 18446744073709551616) (h2 : n < 18446744073709551616) :
    numN n x (7 * j) = n + (x % 128) * 2 ^ (7 * j) := by
  unfold numN
  rw [and_127_u8 x x0 x1, u64w, u64w, Int.emod_eq_of_lt (by omega) (by omega : x % 128 < 18446744073709551616)]
  have hp : (0 : Int) < 2 ^ (7 * j) := Int.pow_pos (by decide)
  have hm : 0 ≤ (x % 128) * 2 ^ (7 * j) := Int.mul_nonneg (by omega) (by omega)
  rw [Int.emod_eq_of_lt hm hb]
  exact or_low_high (7 * j) _ _ h0 h1 hm (Int.mul_emod_left _ _) hb h2
theorem numS_vb : ∀ (d : Nat) (n : Nat) (tl : List Int) (j : Nat) (acc : Int), (vb n).length ≤ d → 0 ≤ acc → acc < 2 ^ (7 * j) → acc + n * 2 ^ (7 * j) < 18446744073709551616 → (0 < j → 0 < n) → j ≤ 9 →
    numS (7 * j) acc (vb n ++ tl) = .ok (acc + n * 2 ^ (7 * j), tl)
  | 0, n, tl, j, acc, h, _, _, _, _, _ => by
    exfalso
    by_cases c : n < 128
    · rw [vb_small c] at h; simp at h
    · rw [vb_big (by omega)] at h; simp at h
  | d + 1, n, tl, j, acc, h, ha, ha1, hn, hj, hj9 => by
    have hP : (0 : Int) < 2 ^ (7 * j) := Int.pow_pos (by decide)
    by_cases c : n < 128
    · rw [vb_small c, List.singleton_append, numS]
      have h9 : 7 * j < 63 ∨ (n : Int) < 2 := by
        rcases Nat.lt_or_ge j 9 with q | q
        · exact .inl (by omega)
        · right
          have : j = 9 := by omega
          subst this
          have : (2 : Int) ^ (7 * 9) = 9223372036854775808 := by decide
          omega
      rw [if_pos ⟨h9, by rcases Nat.eq_zero_or_pos j with q | q; exact .inl (by omega); exact .inr (by have := hj q; omega)⟩, if_pos (by omega)]
      rw [numN_eq ha ha1 (by omega) (by omega) (by rw [show (n : Int) % 128 = n by omega]; omega) (by have : 0 ≤ (n : Int) * 2 ^ (7 * j) := Int.mul_nonneg (by omega) (by omega); omega)]
      rw [show (n : Int) % 128 = n by omega]
    · rw [vb_big (by omega), List.cons_append, numS]
      rw [vb_big (by omega), List.length_cons] at h
      have hj9' : j < 9 := by
        rcases Nat.lt_or_ge j 9 with q | q
        · exact q
        · exfalso
          have : j = 9 := by omega
          subst this
          have : (2 : Int) ^ (7 * 9) = 9223372036854775808 := by decide
          omega
      rw [if_pos ⟨.inl (by omega), .inr (by omega)⟩, if_neg (by omega)]
      have hq : (2 : Int) ^ (7 * (j + 1)) = 128 * 2 ^ (7 * j) := by rw [show 7 * (j + 1) = 7 * j + 7 by omega, Int.pow_add]; rw [Int.mul_comm]; rfl
      generalize hPP : (2 : Int) ^ (7 * j) = P at *
      have hsum : (n : Int) * P = ((n % 128 : Nat) : Int) * P + ((n / 128 : Nat) : Int) * (128 * P) := by
        have : (n : Int) = ((n % 128 : Nat) : Int) + ((n / 128 : Nat) : Int) * 128 := by omega
        conv => lhs; rw [this]
        rw [Int.add_mul, Int.mul_assoc]
      have h1 : 0 ≤ ((n / 128 : Nat) : Int) * (128 * P) := Int.mul_nonneg (by omega) (by omega)
      have h2 : 0 ≤ ((n % 128 : Nat) : Int) * P := Int.mul_nonneg (by omega) (by omega)
      have h3 : ((n % 128 : Nat) : Int) * P ≤ 127 * P := Int.mul_le_mul_of_nonneg_right (by omega) (by omega)
      rw [numN_eq (j := j) ha (by rw [hPP]; exact ha1) (by omega) (by omega) (by rw [hPP, show (((n % 128 + 128 : Nat) : Int)) % 128 = ((n % 128 : Nat) : Int) by omega]; omega) (by omega), hPP,
        show (((n % 128 + 128 : Nat) : Int)) % 128 = ((n % 128 : Nat) : Int) by omega]
      have := numS_vb d (n / 128) tl (j + 1) (acc + ((n % 128 : Nat) : Int) * P) (by omega) (by omega) (by rw [hq]; omega) (by rw [hq]; omega) (by intro _; omega) (by omega)
      rw [show 7 * j + 7 = 7 * (j + 1) by omega, this, hq]
      congr 2
      omega
theorem numS_back {n : Nat} (h : n < 18446744073709551616) (tl : List Int) : numS 0 0 (vb n ++ tl) = .ok ((n : Int), tl) := by
  have := numS_vb 10 n tl 0 0 (vb_length64 h).2 (by omega) (by simp) (by simp; omega) (by omega) (by omega)
  simpa using this
theorem sgnV_eq {a : Int} (h : 0 ≤ a) (h' : a ≤ 18446744073709551615) : sgnV a = if a % 2 = 0 then a / 2 else - (a / 2) - 1 := by
  unfold sgnV
  rw [and_one_u64 a h h']
  by_cases c : a % 2 = 0
  · rw [if_pos c, c, show wrap64 (-(wrap64 0)) = 0 by simp [wrap64], xor_zero_i64]
    unfold wrap64; omega
  · rw [if_neg c, show a % 2 = 1 by omega, show wrap64 (-(wrap64 1)) = -1 by simp [wrap64], xor_ones_i64]
    unfold wrap64; omega
theorem sgnV_zz {y : Int} (h : -9223372036854775808 ≤ y) (h' : y ≤ 9223372036854775807) : sgnV (zz y) = y := by
  rw [sgnV_eq (zz_range h h').1 (zz_range h h').2]
  unfold zz
  split <;> split <;> omega
theorem signed_back {y : Int} (h : -9223372036854775808 ≤ y) (h' : y ≤ 9223372036854775807) (tl : List Int) : mapS sgnV (numS 0 0 (vb (zz y).toNat ++ tl)) = .ok (y, tl) := by
  have hz := zz_range h h'
  rw [numS_back (by omega)]
  show Except.ok (sgnV (((zz y).toNat : Nat) : Int), tl) = _
  rw [show (((zz y).toNat : Nat) : Int) = zz y by omega, sgnV_zz h h']
structure Good {α : Type} (P : List Int → Except Int (α × List Int)) : Prop where
  took : ∀ b v r, P b = .ok (v, r) → ∃ c, b = c ++ r ∧ (∀ r', P (c ++ r') = .ok (v, r')) ∧ ∀ p s, c = p ++ s → s ≠ [] → P p = .error 6
theorem Good.ok {α : Type} (v : α) : Good fun b => .ok (v, b) := ⟨fun b v' r h => by
  obtain ⟨rfl, rfl⟩ : v = v' ∧ b = r := by simpa using h
  exact ⟨[], rfl, fun _ => rfl, fun p s h hs => by simp at h; exact absurd h.2 hs⟩⟩
theorem Good.err {α : Type} (x : Int) : Good fun _ => (.error x : Except Int (α × List Int)) := ⟨fun _ _ _ h => by cases h⟩
theorem Good.ite {α : Type} {c : Prop} [Decidable c] {P Q : List Int → Except Int (α × List Int)} (hp : Good P) (hq : Good Q) : Good fun b => if c then P b else Q b := by
  by_cases h : c
  · simp only [if_pos h]; exact hp
  · simp only [if_neg h]; exact hq
theorem Good.and {α β : Type} {P : List Int → Except Int (α × List Int)} {Q : α → List Int → Except Int (β × List Int)} (hp : Good P) (hq : ∀ v, Good (Q v)) : Good fun b => andS (P b) (Q · ·) := by
  refine ⟨fun b v r h => ?_⟩
  cases h1 : P b with
  | error x => simp only [h1, andS_err] at h; cases h
  | ok p =>
    obtain ⟨v1, r1⟩ := p
    simp only [h1, andS_ok] at h
    obtain ⟨c1, rfl, a1, b1⟩ := hp.took _ _ _ h1
    obtain ⟨c2, rfl, a2, b2⟩ := (hq v1).took _ _ _ h
    refine ⟨c1 ++ c2, by simp, fun r' => ?_, fun p s he hs => ?_⟩
    · simp only [List.append_assoc, a1, andS_ok, a2]
    · rcases List.append_eq_append_iff.1 he with ⟨a', rfl, ha⟩ | ⟨c', rfl, hc⟩
      · simp only [a1, andS_ok]
        exact b2 a' s ha hs
      · by_cases hc0 : c' = []
        · subst hc0
          simp only [List.append_nil] at a1 b1 ⊢
          have hp0 := a1 []
          rw [List.append_nil] at hp0
          simp only [hp0, andS_ok]
          exact b2 [] s (by simpa using hc.symm) hs
        · simp only [b1 p c' rfl hc0, andS_err]
theorem Good.map {α β : Type} {P : List Int → Except Int (α × List Int)} (f : α → β) (hp : Good P) : Good fun b => mapS f (P b) := by
  have := Good.and hp (fun v => Good.ok (f v))
  refine ⟨fun b v r h => ?_⟩
  have e : ∀ b, mapS f (P b) = andS (P b) fun v b => .ok (f v, b) := fun b => by cases P b <;> rfl
  simp only [e] at h ⊢
  exact this.took b v r h
end Go.Proofs.Ytbncfhmfohpfbaa.D13
end

section
namespace Go.Proofs.Ytbncfhmfohpfbaa.D13
set_option linter.unusedVariables false
set_option linter.unusedSimpArgs false
open Go.RowKit Go.Proofs.Ytbncfhmfohpfbaa.X Go.Proofs.YtbncfhmfohpfbaaW.PrintWords Go.Proofs.YtbncfhmfohpfbaaW.PrintLast Go.Proofs.YtbncfhmfohpfbaaW.PrintMore Go.Proofs.Ytbncfhmfohpfbaa.Bx Go.Proofs.Ytbncfhmfohpfbaa.Nx Go.Proofs.Ytbncfhmfohpfbaa.Px
def bt (l : List Int) (i : Nat) : Int := l.getD (i / 8) 0 / 2 ^ (i % 8) % 2
theorem bt_range (l : List Int) (i : Nat) : bt l i = 0 ∨ bt l i = 1 := by unfold bt; omega
def valF (g : Nat → Int) : Nat → Nat → Int
  | _, 0 => 0
  | P, d + 1 => g P + 2 * valF g (P + 1) d
theorem valF_snoc (g : Nat → Int) : ∀ (d P : Nat), valF g P (d + 1) = valF g P d + g (P + d) * 2 ^ d
  | 0, P => by simp [valF]
  | d + 1, P => by
    rw [valF, valF_snoc g d (P + 1), valF, Int.pow_succ, show P + 1 + d = P + (d + 1) by omega, Int.mul_add, Int.add_assoc, ← Int.mul_assoc, Int.mul_comm (2 ^ d) 2, ← Int.mul_assoc, Int.mul_comm 2 (g (P + (d + 1)))]
theorem valF_range {g : Nat → Int} (hg : ∀ i, g i = 0 ∨ g i = 1) : ∀ (d P : Nat), 0 ≤ valF g P d ∧ valF g P d < 2 ^ d
  | 0, P => by simp [valF]
  | d + 1, P => by
    have := valF_range hg d (P + 1)
    have h2 := hg P
    rw [valF, Int.pow_succ]
    omega
theorem getD_u8 {l : List Int} (hl : ∀ x ∈ l, 0 ≤ x ∧ x ≤ 255) (j : Nat) : 0 ≤ l.getD j 0 ∧ l.getD j 0 ≤ 255 := by
  rw [List.getD_eq_getElem?_getD]
  by_cases h : j < l.length
  · rw [List.getElem?_eq_getElem h]; exact hl _ (List.getElem_mem h)
  · rw [List.getElem?_eq_none (by omega)]; simp
theorem shr_range {x : Int} {t : Nat} (h : 0 ≤ x ∧ x ≤ 255) : 0 ≤ x / 2 ^ t ∧ x / 2 ^ t ≤ 255 := by
  have hp : (0 : Int) < 2 ^ t := Int.pow_pos (by decide)
  have := Int.ediv_le_self (2 ^ t) h.1
  exact ⟨Int.ediv_nonneg h.1 (Int.le_of_lt hp), by omega⟩
theorem and_one_u8 (x : Int) (h0 : 0 ≤ x) (h1 : x ≤ 255) : bits .and .u8 x 1 = x % 2 := by
  obtain ⟨a, rfl⟩ := Int.eq_ofNat_of_zero_le h0
  have e := (bits_nat .u8 8 (by decide) wraps_u8 a 1 (by omega) (by decide)).1
  have e2 : ((1 : Nat) : Int) = 1 := rfl
  rw [e2] at e
  rw [e, Nat.and_one_is_mod]; omega
theorem valF_digits (g : Nat → Int) (X : Nat) : ∀ (d P c : Nat), (∀ t, t < d → g (P + t) = ((X / 2 ^ (c + t) % 2 : Nat) : Int)) → valF g P d = ((X / 2 ^ c % 2 ^ d : Nat) : Int)
  | 0, P, c, h => by simp [valF, Nat.mod_one]
  | d + 1, P, c, h => by
    have h0 := h 0 (by omega)
    rw [Nat.add_zero, Nat.add_zero] at h0
    have ih := valF_digits g X d (P + 1) (c + 1) (fun t ht => by
      have := h (t + 1) (by omega)
      rwa [show P + (t + 1) = P + 1 + t by omega, show c + (t + 1) = c + 1 + t by omega] at this)
    have e : X / 2 ^ c / 2 = X / 2 ^ (c + 1) := by rw [Nat.div_div_eq_div_mul, Nat.pow_succ]
    have e2 : X / 2 ^ c % 2 ^ (d + 1) = X / 2 ^ c % 2 + 2 * (X / 2 ^ (c + 1) % 2 ^ d) := by rw [Nat.pow_succ 2 d, Nat.mul_comm (2 ^ d) 2, Nat.mod_mul, e]
    rw [valF, ih, h0, e2]
    generalize X / 2 ^ c % 2 = u
    generalize X / 2 ^ (c + 1) % 2 ^ d = v
    omega
theorem bitsFrom_get (n : Int) : ∀ (d i c : Nat), c < d → (bitsFrom n i d).getD c 0 = n / 2 ^ (i + c) % 2
  | 0, _, c, h => absurd h (by omega)
  | d + 1, i, 0, h => by simp [bitsFrom]
  | d + 1, i, c + 1, h => by
    have := bitsFrom_get n d (i + 1) c (by omega)
    rw [show i + 1 + c = i + (c + 1) by omega] at this
    rw [bitsFrom, ← this]; simp
theorem allBits_get (W : Nat) : ∀ (l : List Int) (i c : Nat), i < l.length → c < W → (allBits W l).getD (i * W + c) 0 = l.getD i 0 / 2 ^ c % 2
  | [], i, c, h, _ => absurd h (by simp)
  | x :: l, 0, c, h, hc => by
    rw [allBits_cons, List.getD_eq_getElem?_getD, List.getElem?_append_left (by rw [bitsFrom_length]; omega), ← List.getD_eq_getElem?_getD, Nat.zero_mul, Nat.zero_add, bitsFrom_get x W 0 c hc, Nat.zero_add]; rfl
  | x :: l, i + 1, c, h, hc => by
    have := allBits_get W l i c (by simpa using h) hc
    rw [allBits_cons, List.getD_eq_getElem?_getD, List.getElem?_append_right (by rw [bitsFrom_length, Nat.add_mul]; omega), ← List.getD_eq_getElem?_getD, bitsFrom_length, show (i + 1) * W + c - W = i * W + c by rw [Nat.add_mul]; omega, this]; simp
theorem eight_bits {x0 x1 x2 x3 x4 x5 x6 x7 : Int} (h0 : x0 = 0 ∨ x0 = 1) (h1 : x1 = 0 ∨ x1 = 1) (h2 : x2 = 0 ∨ x2 = 1) (h3 : x3 = 0 ∨ x3 = 1) (h4 : x4 = 0 ∨ x4 = 1) (h5 : x5 = 0 ∨ x5 = 1) (h6 : x6 = 0 ∨ x6 = 1) (h7 : x7 = 0 ∨ x7 = 1) :
    (x0 + 2 * x1 + 4 * x2 + 8 * x3 + 16 * x4 + 32 * x5 + 64 * x6 + 128 * x7) / 1 % 2 = x0 ∧ (x0 + 2 * x1 + 4 * x2 + 8 * x3 + 16 * x4 + 32 * x5 + 64 * x6 + 128 * x7) / 2 % 2 = x1 ∧ (x0 + 2 * x1 + 4 * x2 + 8 * x3 + 16 * x4 + 32 * x5 + 64 * x6 + 128 * x7) / 4 % 2 = x2 ∧ (x0 + 2 * x1 + 4 * x2 + 8 * x3 + 16 * x4 + 32 * x5 + 64 * x6 + 128 * x7) / 8 % 2 = x3 ∧
    (x0 + 2 * x1 + 4 * x2 + 8 * x3 + 16 * x4 + 32 * x5 + 64 * x6 + 128 * x7) / 16 % 2 = x4 ∧ (x0 + 2 * x1 + 4 * x2 + 8 * x3 + 16 * x4 + 32 * x5 + 64 * x6 + 128 * x7) / 32 % 2 = x5 ∧ (x0 + 2 * x1 + 4 * x2 + 8 * x3 + 16 * x4 + 32 * x5 + 64 * x6 + 128 * x7) / 64 % 2 = x6 ∧ (x0 + 2 * x1 + 4 * x2 + 8 * x3 + 16 * x4 + 32 * x5 + 64 * x6 + 128 * x7) / 128 % 2 = x7 := by
  have a0 : 0 ≤ x0 ∧ x0 ≤ 1 := by omega
  have a1 : 0 ≤ x1 ∧ x1 ≤ 1 := by omega
  have a2 : 0 ≤ x2 ∧ x2 ≤ 1 := by omega
  have a3 : 0 ≤ x3 ∧ x3 ≤ 1 := by omega
  have a4 : 0 ≤ x4 ∧ x4 ≤ 1 := by omega
  have a5 : 0 ≤ x5 ∧ x5 ≤ 1 := by omega
  have a6 : 0 ≤ x6 ∧ x6 ≤ 1 := by omega
  have a7 : 0 ≤ x7 ∧ x7 ≤ 1 := by omega
  clear h0 h1 h2 h3 h4 h5 h6 h7
  refine ⟨by omega, by omega, by omega, by omega, by omega, by omega, by omega, by omega⟩
theorem byteAt_bit {B : List Int} (hB : ∀ b ∈ B, b = 0 ∨ b = 1) (j t : Nat) (ht : t < 8) : byteAt B j / 2 ^ t % 2 = B.getD (8 * j + t) 0 := by
  have h := eight_bits (getD_bit hB (8 * j)) (getD_bit hB (8 * j + 1)) (getD_bit hB (8 * j + 2)) (getD_bit hB (8 * j + 3)) (getD_bit hB (8 * j + 4)) (getD_bit hB (8 * j + 5)) (getD_bit hB (8 * j + 6)) (getD_bit hB (8 * j + 7))
  have : t = 0 ∨ t = 1 ∨ t = 2 ∨ t = 3 ∨ t = 4 ∨ t = 5 ∨ t = 6 ∨ t = 7 := by omega
  rcases this with rfl | rfl | rfl | rfl | rfl | rfl | rfl | rfl
  · exact h.1
  · exact h.2.1
  · exact h.2.2.1
  · exact h.2.2.2.1
  · exact h.2.2.2.2.1
  · exact h.2.2.2.2.2.1
  · exact h.2.2.2.2.2.2.1
  · exact h.2.2.2.2.2.2.2
theorem bt_packB {B : List Int} (hB : ∀ b ∈ B, b = 0 ∨ b = 1) (i : Nat) : bt (packB B) i = B.getD i 0 := by
  unfold bt packB
  rw [List.getD_eq_getElem?_getD, List.getElem?_map]
  by_cases h : i / 8 < (B.length + 7) / 8
  · rw [List.getElem?_range h]
    have := byteAt_bit hB (i / 8) (i % 8) (by omega)
    rw [show 8 * (i / 8) + i % 8 = i by omega] at this
    exact this
  · rw [List.getElem?_eq_none (by simp; omega), getD_out B (by omega)]
    simp
theorem rd_map (B : List Int) (n j : Nat) (h : j < n) : rd ((List.range n).map (byteAt B)) (j : Int) = byteAt B j := by
  unfold rd
  rw [List.getD_eq_getElem?_getD, List.getElem?_map, show ((j : Int)).toNat = j from rfl, List.getElem?_range h]; rfl
theorem w64n {n : Nat} (h : n ≤ 1000000000) : wrap64 (n : Int) = n := by unfold wrap64; omega
theorem w64s {n : Nat} (h : n + 1 ≤ 1000000000) : wrap64 ((n : Int) + 1) = ((n + 1 : Nat) : Int) := by unfold wrap64; omega
theorem and_one_i64 (y : Int) : bits .and .i64 y 1 = y % 2 := by
  show IntKind.i64.wrap ((BitVec.ofInt 64 y &&& BitVec.ofInt 64 1).toNat : Int) = _
  have e : (BitVec.ofInt 64 y &&& BitVec.ofInt 64 1).toNat = (y % 2).toNat := by
    rw [BitVec.toNat_and, BitVec.toNat_ofInt, BitVec.toNat_ofInt]
    have b : ((1 : Int) % ((2 ^ 64 : Nat) : Int)).toNat = 1 := by decide
    rw [b, Nat.and_one_is_mod]
    omega
  rw [e, IntKind.wrap_i64]
  omega
theorem or_low_high8 (i : Nat) (x y : Int) (hx0 : 0 ≤ x) (hx : x < 2 ^ i) (hy0 : 0 ≤ y) (hy : y % 2 ^ i = 0) (hy1 : y < 256) (hx1 : x < 256) :
    bits .or .u8 x y = x + y := by
  have := bits_join .u8 8 (by decide) wraps_u8 i y x hy0 hy (by omega) hx0 hx (by omega)
  obtain ⟨a, rfl⟩ := Int.eq_ofNat_of_zero_le hx0
  obtain ⟨b, rfl⟩ := Int.eq_ofNat_of_zero_le hy0
  have c := (bits_nat .u8 8 (by decide) wraps_u8 a b (by omega) (by omega)).2
  have d := (bits_nat .u8 8 (by decide) wraps_u8 b a (by omega) (by omega)).2
  rw [Nat.or_comm] at c
  have : bits .or .u8 (a : Int) (b : Int) = bits .or .u8 (b : Int) (a : Int) := c.trans d.symm
  omega
theorem pk_byte {B : List Int} (hB : ∀ b ∈ B, b = 0 ∨ b = 1) {b : Int} (hb : b = 0 ∨ b = 1) {L : Nat} (hL : B.length = L) (hl : L < 9223372036854775808) :
    bits .or .u8 (byteAt B (L / 8)) (shl .u8 (b % 256) (bits .and .i64 (L : Int) 7)) = byteAt B (L / 8) + b * 2 ^ (L % 8) := by
  have e7 : bits .and .i64 (L : Int) 7 = ((L % 8 : Nat) : Int) := and_low_i64 L 7 3 (by decide) (by decide) hl
  rw [e7]
  have hb1 := byteAt_range hB (L / 8)
  have hb2 := byteAt_last hB
  rw [hL] at hb2
  have hr : L % 8 < 8 := by omega
  have hs : shl .u8 (b % 256) ((L % 8 : Nat) : Int) = b * 2 ^ (L % 8) := by
    unfold shl
    rw [show min (((L % 8 : Nat) : Int)).toNat IntKind.u8.bits = L % 8 from by show min _ 8 = _; omega, IntKind.wrap_u8]
    have hr8 : L % 8 = 0 ∨ L % 8 = 1 ∨ L % 8 = 2 ∨ L % 8 = 3 ∨ L % 8 = 4 ∨ L % 8 = 5 ∨ L % 8 = 6 ∨ L % 8 = 7 := by omega
    rcases hb with rfl | rfl <;> rcases hr8 with h | h | h | h | h | h | h | h <;> rw [h] <;> decide
  rw [hs]
  have hp : (0 : Int) < 2 ^ (L % 8) := Int.pow_pos (by decide)
  have hp2 : (2 : Int) ^ (L % 8) ≤ 128 := by
    have hr8 : L % 8 = 0 ∨ L % 8 = 1 ∨ L % 8 = 2 ∨ L % 8 = 3 ∨ L % 8 = 4 ∨ L % 8 = 5 ∨ L % 8 = 6 ∨ L % 8 = 7 := by omega
    rcases hr8 with h | h | h | h | h | h | h | h <;> rw [h] <;> decide
  refine or_low_high8 (L % 8) _ _ hb1.1 hb2 (by rcases hb with rfl | rfl <;> omega) (Int.mul_emod_left _ _) (by rcases hb with rfl | rfl <;> omega) (by omega)
theorem pk_l1 : ∀ (d : Nat) (k : Nat) (W : Nat) (n c : Nat) (x : Int) (B ys : List Int) (m i : Int), (∀ b ∈ B, b = 0 ∨ b = 1) → c + d = W → W ≤ 64 → B.length + d ≤ 1000000000 → (B.length + d + 7) / 8 ≤ n →
    delta_Pack.l1 (k + d + 1) (W : Int) ((List.range n).map (byteAt B)) (B.length : Int) x ys m i (W : Int) (c : Int) = delta_Pack.l0 k (W : Int) ((List.range n).map (byteAt (B ++ bitsFrom x c d))) ((B.length + d : Nat) : Int) ys m (wrap64 (i + 1))
  | 0, k, W, n, c, x, B, ys, m, i, hB, hc, hW, hl, hn => by
    rw [show k + 0 + 1 = k + 1 by omega, delta_Pack.l1, if_neg (by omega)]; simp [bitsFrom]
  | d + 1, k, W, n, c, x, B, ys, m, i, hB, hc, hW, hl, hn => by
    rw [show k + (d + 1) + 1 = (k + d + 1) + 1 by omega, delta_Pack.l1, if_pos (by omega), if_pos (by omega), if_pos (by rw [List.length_map, List.length_range]; omega), if_pos (by omega)]
    have e7 : bits .and .i64 (B.length : Int) 7 = ((B.length % 8 : Nat) : Int) := and_low_i64 B.length 7 3 (by decide) (by decide) (by omega)
    rw [if_pos (by rw [e7]; omega)]
    have hsh : shr .i64 x (c : Int) = x / 2 ^ c := by
      unfold shr
      rw [show min ((c : Int)).toNat IntKind.i64.bits = c from by show min _ 64 = _; omega]
    rw [hsh, and_one_i64]
    have hb : x / 2 ^ c % 2 = 0 ∨ x / 2 ^ c % 2 = 1 := by omega
    have e8 : (B.length : Int) / 8 = ((B.length / 8 : Nat) : Int) := by omega
    rw [e8, rd_map B n _ (by omega), show ((((B.length / 8 : Nat)) : Int)).toNat = B.length / 8 from rfl, pk_byte hB hb rfl (by omega), map_set B _ n (by omega)]
    have hB' : ∀ b ∈ B ++ [x / 2 ^ c % 2], b = 0 ∨ b = 1 := by
      intro b hb'
      rcases List.mem_append.1 hb' with h | h
      · exact hB b h
      · rw [List.mem_singleton.1 h]; exact hb
    have ih := pk_l1 d k W n (c + 1) x (B ++ [x / 2 ^ c % 2]) ys m i hB' (by omega) hW (by simp; omega) (by simp; omega)
    rw [List.append_assoc, show [x / 2 ^ c % 2] ++ bitsFrom x (c + 1) d = bitsFrom x c (d + 1) from rfl, List.length_append, List.length_singleton] at ih
    rw [w64s (by omega), w64s (by omega), ih, show B.length + 1 + d = B.length + (d + 1) by omega]
theorem rd_snoc {ys0 ys1 : List Int} {x : Int} : rd (ys0 ++ x :: ys1) (ys0.length : Int) = x := by
  unfold rd
  rw [List.getD_eq_getElem?_getD, show ((ys0.length : Int)).toNat = ys0.length from rfl, List.getElem?_append_right (Nat.le_refl _)]; simp
theorem pk_l0 : ∀ (ys1 : List Int) (k : Nat) (W : Nat) (n : Nat) (ys ys0 : List Int), ys = ys0 ++ ys1 → W ≤ 64 → ys.length ≤ 1000000 → (ys.length * W + 7) / 8 ≤ n → ys1.length * (W + 2) + 1 ≤ k →
    delta_Pack.l0 k (W : Int) ((List.range n).map (byteAt (allBits W ys0))) ((ys0.length * W : Nat) : Int) ys (ys.length : Int) (ys0.length : Int) = some ((List.range n).map (byteAt (allBits W ys)))
  | [], k, W, n, ys, ys0, he, hW, hl, hn, hk => by
    obtain ⟨k, rfl⟩ : ∃ j, k = j + 1 := ⟨k - 1, by omega⟩
    rw [List.append_nil] at he
    subst he
    rw [delta_Pack.l0, if_neg (by omega)]
  | x :: ys1, k, W, n, ys, ys0, he, hW, hl, hn, hk => by
    have hll : ys.length = ys0.length + (ys1.length + 1) := by rw [he]; simp
    have hmw : ys0.length * W + W ≤ ys.length * W := by
      have := Nat.mul_le_mul_right W (show ys0.length + 1 ≤ ys.length by omega)
      rw [Nat.add_mul] at this; omega
    have hmb : ys.length * W ≤ 1000000 * 64 := Nat.mul_le_mul hl hW
    have hkk : (x :: ys1).length * (W + 2) = ys1.length * (W + 2) + (W + 2) := by rw [List.length_cons, Nat.add_mul]; omega
    rw [hkk] at hk
    obtain ⟨k', rfl⟩ : ∃ j, k = (j + W + 1) + 1 := ⟨k - W - 2, by omega⟩
    have hrd : rd ys (ys0.length : Int) = x := by rw [he]; exact rd_snoc
    rw [delta_Pack.l0, if_pos (by omega), if_pos (by omega), if_pos (by omega), hrd]
    have hq := pk_l1 W k' W n 0 x (allBits W ys0) ys (ys.length : Int) (ys0.length : Int) (allBits_range W ys0) (by omega) hW (by rw [allBits_length]; omega) (by rw [allBits_length]; omega)
    rw [allBits_length] at hq
    have z : ((0 : Nat) : Int) = 0 := rfl
    rw [z] at hq
    rw [hq, w64 (by omega) (by omega)]
    have e : allBits W ys0 ++ bitsFrom x 0 W = allBits W (ys0 ++ [x]) := by simp [allBits]
    have ih := pk_l0 ys1 k' W n ys (ys0 ++ [x]) (by rw [he]; simp) hW hl hn (by omega)
    rw [List.length_append, List.length_singleton, Nat.add_mul, Nat.one_mul] at ih
    rw [e, show (ys0.length : Int) + 1 = ((ys0.length + 1 : Nat) : Int) by omega]
    exact ih
theorem pack {k : Nat} {W : Nat} {ys : List Int} (hW : W ≤ 64) (hl : ys.length ≤ 1000000) (hk : ys.length * (W + 2) + 2 ≤ k) : delta_Pack.f k (W : Int) ys = some (packB (allBits W ys)) := by
  obtain ⟨k, rfl⟩ : ∃ j, k = j + 1 := ⟨k - 1, by omega⟩
  unfold delta_Pack.f
  have hmb : ys.length * W ≤ 1000000 * 64 := Nat.mul_le_mul hl hW
  have hm : ((ys.length * W : Nat) : Int) = (W : Int) * (ys.length : Int) := by rw [Int.natCast_mul, Int.mul_comm]
  rw [if_neg (by omega), show decide ((W : Int) > 64) = false from decide_eq_false (by omega), delta_Pack.j0, if_neg (by decide), ← hm, w64n (by omega : ys.length * W ≤ 1000000000), w64 (by omega) (by omega), if_pos (by omega), if_pos (by omega)]
  have := pk_l0 ys k W ((((ys.length * W : Nat) : Int) + 7) / 8).toNat ys [] rfl hW hl (by omega) (by omega)
  have e : allBits W [] = [] := rfl
  rw [e, packB_zero] at this
  have z : (([] : List Int).length : Int) = 0 := rfl
  rw [z, List.length_nil, Nat.zero_mul] at this
  refine Eq.trans (show _ = _ from this) ?_
  congr 1
  unfold packB
  rw [allBits_length]
  congr 2
theorem ofInt_wrap64 (x : Int) : BitVec.ofInt 64 (wrap64 x) = BitVec.ofInt 64 x := by
  apply BitVec.eq_of_toNat_eq
  rw [BitVec.toNat_ofInt, BitVec.toNat_ofInt]
  unfold wrap64
  omega
theorem or_i64 (x y : Int) : bits .or .i64 (wrap64 x) (wrap64 y) = wrap64 (bits .or .u64 x y) := by
  show IntKind.i64.wrap ((BitVec.ofInt 64 (wrap64 x) ||| BitVec.ofInt 64 (wrap64 y)).toNat : Int) = wrap64 (IntKind.u64.wrap ((BitVec.ofInt 64 x ||| BitVec.ofInt 64 y).toNat : Int))
  rw [ofInt_wrap64, ofInt_wrap64, u64w, IntKind.wrap_i64]
  have := (BitVec.ofInt 64 x ||| BitVec.ofInt 64 y).isLt
  unfold wrap64
  omega
theorem pow_le64 {d : Nat} (h : d ≤ 64) : (2 : Int) ^ d ≤ 18446744073709551616 := by
  have := Nat.pow_le_pow_right (n := 2) (by decide) h
  have e : ∀ n : Nat, ((2 ^ n : Nat) : Int) = (2 : Int) ^ n := fun n => by simp
  rw [← e]
  exact Int.ofNat_le.2 this
theorem pkBit_eq {bs : List Int} (hu : ∀ x ∈ bs, 0 ≤ x ∧ x ≤ 255) (j : Nat) : pkBit bs j = bt bs j := by
  have := shr_range (t := j % 8) (getD_u8 hu (j / 8))
  unfold pkBit bt
  rw [and_one_u8 _ this.1 this.2]
  exact w64 (by omega) (by omega)
theorem pkF_eq {bs : List Int} (hu : ∀ x ∈ bs, 0 ≤ x ∧ x ≤ 255) (s : Nat) : ∀ k, k ≤ 64 → pkF bs s k = wrap64 (valF (bt bs) s k)
  | 0, _ => by simp [pkF, valF, wrap64]
  | k + 1, h => by
    have hr := valF_range (bt_range bs) k s
    have hb := bt_range bs (s + k)
    have hp : (0 : Int) < 2 ^ k := Int.pow_pos (by decide)
    have hp2 : (2 : Int) ^ k * 2 ≤ 18446744073709551616 := by rw [← Int.pow_succ]; exact pow_le64 h
    rw [pkF, pkF_eq hu s k (by omega), pkBit_eq hu, or_i64, valF_snoc]
    congr 1
    refine or_low_high k _ _ hr.1 hr.2 ?_ (Int.mul_emod_left _ _) ?_ (by omega)
    · rcases hb with e | e <;> rw [e] <;> omega
    · rcases hb with e | e <;> rw [e] <;> omega
theorem digit (x : Int) (c : Nat) (hc : c < 64) : x / 2 ^ c % 2 = (((x % 18446744073709551616).toNat / 2 ^ c % 2 : Nat) : Int) := by
  have hp : (0 : Int) < 2 ^ c := Int.pow_pos (by decide)
  have e64 : (18446744073709551616 : Int) = 2 ^ c * (2 * 2 ^ (63 - c)) := by
    rw [Int.mul_left_comm, ← Int.pow_add, show c + (63 - c) = 63 by omega]; decide
  obtain ⟨m, hm⟩ : ∃ m, m = x % 18446744073709551616 := ⟨_, rfl⟩
  obtain ⟨q, hq⟩ : ∃ q, q = x / 18446744073709551616 := ⟨_, rfl⟩
  have hx : x = m + 2 ^ c * (2 * 2 ^ (63 - c) * q) := by
    rw [← Int.mul_assoc, ← e64, hm, hq]; omega
  have hm0 : 0 ≤ m := by omega
  rw [← hm]
  conv => lhs; rw [hx, Int.add_mul_ediv_left _ _ (by omega)]
  obtain ⟨mn, rfl⟩ := Int.eq_ofNat_of_zero_le hm0
  have e1 : ((mn : Int)).toNat = mn := rfl
  have e2 : (mn : Int) / 2 ^ c = ((mn / 2 ^ c : Nat) : Int) := by simp
  rw [e1, e2, Int.mul_assoc]
  omega
theorem allBits_val {W : Nat} (hW : W ≤ 64) (xs : List Int) (i : Nat) (h : i < xs.length) : valF (bt (packB (allBits W xs))) (i * W) W = (((xs.getD i 0 % 18446744073709551616).toNat % 2 ^ W : Nat) : Int) := by
  have := valF_digits (bt (packB (allBits W xs))) (xs.getD i 0 % 18446744073709551616).toNat W (i * W) 0 (fun t ht => by
    rw [bt_packB (allBits_range W xs), allBits_get W xs i t h ht, Nat.zero_add]
    exact digit _ t (by omega))
  rw [this, Nat.pow_zero, Nat.div_one]
def fitsW (W : Nat) (x : Int) : Prop := (x % 18446744073709551616).toNat < 2 ^ W ∧ -9223372036854775808 ≤ x ∧ x ≤ 9223372036854775807
theorem fits_back {W : Nat} {x : Int} (h : fitsW W x) : wrap64 (((x % 18446744073709551616).toNat % 2 ^ W : Nat) : Int) = x := by
  rw [Nat.mod_eq_of_lt h.1]
  have := h.2
  unfold wrap64
  omega
theorem packed_back {W : Nat} {xs : List Int} (hW : W ≤ 64) (hl : xs.length = 32) (hx : ∀ x ∈ xs, fitsW W x) (tl : List Int) : packedS W (packB (allBits W xs) ++ tl) = .ok (xs, tl) := by
  have hlen : (packB (allBits W xs)).length = 4 * W := by rw [packB_length, allBits_length, hl]; omega
  unfold packedS
  rw [if_pos (by rw [List.length_append, hlen]; omega), List.take_append_of_le_length (by omega), List.take_of_length_le (by omega), List.drop_append_of_le_length (by omega), List.drop_of_length_le (by omega), List.nil_append]
  have hu := packB_range (allBits_range W xs)
  have : packedV (packB (allBits W xs)) W = xs := by
    apply List.ext_getElem
    · rw [packedV_length, hl]
    · intro i h1 h2
      simp only [packedV, List.getElem_map, List.getElem_range]
      rw [pkF_eq hu _ _ hW, allBits_val hW xs i h2, List.getD_eq_getElem?_getD, List.getElem?_eq_getElem h2]
      exact fits_back (hx _ (List.getElem_mem h2))
  rw [this]
end Go.Proofs.Ytbncfhmfohpfbaa.D13
end

section
namespace Go.Proofs.Ytbncfhmfohpfbaa.D13
set_option linter.unusedVariables false
set_option linter.unusedSimpArgs false
open Go.RowKit Go.Proofs.Ytbncfhmfohpfbaa.X Go.Proofs.YtbncfhmfohpfbaaW.PrintWords Go.Proofs.YtbncfhmfohpfbaaW.PrintLast Go.Proofs.YtbncfhmfohpfbaaW.PrintMore Go.Proofs.Ytbncfhmfohpfbaa.Bx Go.Proofs.Ytbncfhmfohpfbaa.Nx Go.Proofs.Ytbncfhmfohpfbaa.Px
def inI (x : Int) : Prop := -9223372036854775808 ≤ x ∧ x ≤ 9223372036854775807
theorem wrap_in (x : Int) : inI (wrap64 x) := by unfold inI wrap64; omega
theorem bitLenAux_lt : ∀ (f x : Nat), x < 2 ^ f → x < 2 ^ Lib.bitLenAux f x
  | 0, x, h => by simpa [Lib.bitLenAux] using h
  | f + 1, x, h => by
    unfold Lib.bitLenAux
    split
    · simp; omega
    · have := bitLenAux_lt f (x / 2) (by rw [Nat.pow_succ] at h; omega)
      rw [Nat.add_comm, Nat.pow_succ]
      omega
theorem bitLenAux_top : ∀ (f x : Nat), Lib.bitLenAux f x ≤ f
  | 0, x => by simp [Lib.bitLenAux]
  | f + 1, x => by
    unfold Lib.bitLenAux
    split
    · omega
    · have := bitLenAux_top f (x / 2); omega
theorem W64_range (x : Int) : 0 ≤ W64 x ∧ W64 x ≤ 64 := by
  unfold W64
  have := bitLenAux_top 64 (IntKind.u64.wrap x).toNat
  unfold Lib.bitLen
  omega
theorem W64_lt (x : Int) : (x % 18446744073709551616).toNat < 2 ^ (W64 x).toNat := by
  unfold W64
  rw [u64w]
  exact bitLenAux_lt 64 _ (by omega)
theorem topW_acc (least : Int) : ∀ (xs : List Int) (m : Int), m ≤ xs.foldl (fun m x => max m (W64 (difW least x))) m ∧ (∀ x ∈ xs, W64 (difW least x) ≤ xs.foldl (fun m x => max m (W64 (difW least x))) m) ∧ (0 ≤ m → m ≤ 64 → xs.foldl (fun m x => max m (W64 (difW least x))) m ≤ 64)
  | [], m => ⟨by simp, by simp, fun _ h => by simpa using h⟩
  | x :: xs, m => by
    have ih := topW_acc least xs (max m (W64 (difW least x)))
    have hr := W64_range (difW least x)
    rw [List.foldl_cons]
    refine ⟨by omega, fun y hy => ?_, fun h0 h1 => ih.2.2 (by omega) (by omega)⟩
    rcases List.mem_cons.1 hy with rfl | hy
    · omega
    · exact ih.2.1 y hy
theorem topW_range (least : Int) (xs : List Int) : 0 ≤ topW least xs ∧ topW least xs ≤ 64 := ⟨(topW_acc least xs 0).1, (topW_acc least xs 0).2.2 (by omega) (by omega)⟩
theorem row_fits (least : Int) (xs : List Int) : ∀ x ∈ rowW least xs, fitsW (topW least xs).toNat x := by
  intro x hx
  have hr := topW_range least xs
  unfold rowW at hx
  rcases List.mem_append.1 hx with h | h
  · obtain ⟨y, hy, rfl⟩ := List.mem_map.1 h
    have h1 := (topW_acc least xs 0).2.1 y hy
    have h2 := W64_lt (difW least y)
    have h3 := W64_range (difW least y)
    refine ⟨Nat.lt_of_lt_of_le h2 (Nat.pow_le_pow_right (by decide) ?_), wrap_in _⟩
    have h4 : W64 (difW least y) ≤ topW least xs := h1
    omega
  · obtain ⟨_, rfl⟩ := List.mem_replicate.1 h
    exact ⟨by simpa using Nat.two_pow_pos _, by decide, by decide⟩
def pakB (least : Int) (d : List Int) (i : Nat) : List Int := packB (allBits (topW least (cutW d i)).toNat (rowW least (cutW d i)))
def wsR (least : Int) (d : List Int) : Nat → Nat → List Int
  | 0, _ => []
  | m + 1, i => topW least (cutW d i) :: wsR least d m (i + 1)
def psR (least : Int) (d : List Int) : Nat → Nat → List Int
  | 0, _ => []
  | m + 1, i => pakB least d i ++ psR least d m (i + 1)
theorem wsR_length (least : Int) (d : List Int) : ∀ m i, (wsR least d m i).length = m
  | 0, _ => rfl
  | m + 1, i => by rw [wsR, List.length_cons, wsR_length least d m]
theorem cutW_length (d : List Int) (i : Nat) : (cutW d i).length ≤ 32 := by unfold cutW; rw [List.length_take]; omega
theorem pakB_length (least : Int) (d : List Int) (i : Nat) : (pakB least d i).length = 4 * (topW least (cutW d i)).toNat := by
  unfold pakB
  rw [packB_length, allBits_length, rowW_length least _ (cutW_length d i)]
  omega
theorem psR_length (least : Int) (d : List Int) : ∀ m i, (psR least d m i).length ≤ 256 * m
  | 0, _ => by simp [psR]
  | m + 1, i => by
    have := psR_length least d m (i + 1)
    have := topW_range least (cutW d i)
    rw [psR, List.length_append, pakB_length]
    omega
theorem laidP_eq {k : Nat} (hk : 3000 ≤ k) (least : Int) (d : List Int) : ∀ (m n i : Nat) (ws ps : List Int), (d.length + 31) / 32 = i + m → m < n → ps.length + 256 * m ≤ 100000 → laidP k least d n i ws ps = some (ws ++ wsR least d m i, ps ++ psR least d m i)
  | 0, n, i, ws, ps, h, hn, hp => by
    obtain ⟨n, rfl⟩ : ∃ j, n = j + 1 := ⟨n - 1, by omega⟩
    rw [laidP, if_neg (by omega)]
    simp [wsR, psR]
  | m + 1, n, i, ws, ps, h, hn, hp => by
    obtain ⟨n, rfl⟩ : ∃ j, n = j + 1 := ⟨n - 1, by omega⟩
    have hr := topW_range least (cutW d i)
    have hl := rowW_length least (cutW d i) (cutW_length d i)
    have hpk := pack (k := k) (W := (topW least (cutW d i)).toNat) (ys := rowW least (cutW d i)) (by omega) (by omega) (by
      rw [hl]
      have : 32 * ((topW least (cutW d i)).toNat + 2) ≤ 32 * 66 := Nat.mul_le_mul_left _ (by omega)
      omega)
    rw [show (((topW least (cutW d i)).toNat : Nat) : Int) = topW least (cutW d i) by omega] at hpk
    have hpl := pakB_length least d i
    unfold pakB at hpl
    rw [laidP, if_pos (by omega), hpk, Option.bind_some, if_pos (by rw [List.length_append, hpl]; omega), laidP_eq hk least d m n (i + 1) _ _ (by omega) (by omega) (by rw [List.length_append, hpl]; omega)]
    rw [wsR, psR, show topW least (cutW d i) % 256 = topW least (cutW d i) by omega]
    simp [pakB]
def npW (d : List Int) : Nat := (d.length + 31) / 32
def minD : List Int → Int
  | [] => 0
  | x :: r => r.foldl min x
def blkB (d : List Int) : List Int := vb (zz (minD d)).toNat ++ (wsR (minD d) d (npW d) 0 ++ List.replicate (4 - npW d) 0) ++ psR (minD d) d (npW d) 0
theorem foldl_min_in : ∀ (r : List Int) (x : Int), inI x → (∀ y ∈ r, inI y) → inI (r.foldl min x)
  | [], x, h, _ => h
  | y :: r, x, h, hr => by
    rw [List.foldl_cons]
    refine foldl_min_in r _ ?_ (fun z hz => hr z (by simp [hz]))
    have := hr y (by simp)
    unfold inI at *
    omega
theorem minD_in {d : List Int} (h : ∀ x ∈ d, inI x) : inI (minD d) := by
  cases d with
  | nil => exact ⟨by decide, by decide⟩
  | cons x r => exact foldl_min_in r x (h x (by simp)) (fun y hy => h y (by simp [hy]))
theorem blkB_length {d : List Int} (h : ∀ x ∈ d, inI x) (hn : d.length ≤ 128) : (blkB d).length ≤ 1040 := by
  have h1 := minD_in h
  have hz := zz_range h1.1 h1.2
  have := vb_length64 (n := (zz (minD d)).toNat) (by omega)
  have := psR_length (minD d) d (npW d) 0
  unfold blkB
  rw [List.length_append, List.length_append, List.length_append, wsR_length, List.length_replicate]
  have : npW d ≤ 4 := by unfold npW; omega
  omega
theorem laid_eq {k : Nat} (hk : 3000 ≤ k) {out d : List Int} (h : ∀ x ∈ d, inI x) (h0 : 0 < d.length) (hn : d.length ≤ 128) (ho : out.length ≤ 99999990) : laidF k out d = some (out ++ blkB d) := by
  have hm : slices_Min_int64_int64.f d = some (minD d) := by
    cases d with
    | nil => simp at h0
    | cons x r => rfl
  have h1 := minD_in h
  have hz := zz_range h1.1 h1.2
  have hv := vb_length64 (n := (zz (minD d)).toNat) (by omega)
  have h4 : npW d ≤ 4 := by unfold npW; omega
  unfold laidF
  rw [hm, Option.bind_some, signed (by omega) (by omega) h1.1 h1.2, Option.bind_some, if_pos (by rw [List.length_append]; omega), laidP_eq hk (minD d) d (npW d) 5 0 [] [] (by unfold npW; omega) (by omega) (by simp; omega), Option.bind_some]
  simp only [List.nil_append, wsR_length, blkB, List.append_assoc]
theorem widS_back (n fr : Int) (least : Int) (d : List Int) : ∀ (m z i : Nat) (tl : List Int), (∀ j, j < m → fr + 32 * ((i + j : Nat) : Int) < n) → widS n fr (m + z) i (wsR least d m i ++ List.replicate z 0 ++ tl) = .ok (wsR least d m i ++ List.replicate z 0, tl)
  | 0, 0, i, tl, h => rfl
  | 0, z + 1, i, tl, h => by
    have ih := widS_back n fr least d 0 z (i + 1) tl (fun j hj => absurd hj (by omega))
    rw [show 0 + (z + 1) = (0 + z) + 1 by omega, widS]
    simp only [wsR, List.nil_append, List.replicate_succ, List.cons_append] at ih ⊢
    simp only [byteS, andS_ok]
    rw [if_pos ⟨by omega, .inl (by trivial)⟩, ih, andS_ok]
  | m + 1, z, i, tl, h => by
    have hr := topW_range least (cutW d i)
    have ih := widS_back n fr least d m z (i + 1) tl (fun j hj => by have := h (j + 1) (by omega); rwa [show i + 1 + j = i + (j + 1) by omega])
    rw [show m + 1 + z = (m + z) + 1 by omega, widS]
    simp only [wsR, List.cons_append]
    simp only [byteS, andS_ok]
    have h0 := h 0 (by omega)
    rw [if_pos ⟨hr.2, .inr h0⟩, ih, andS_ok]
def appD (l ds : List Int) : List Int := ds.foldl (fun l d => l ++ [wrap64 (rd l ((l.length : Int) - 1) + d)]) l
theorem appD_append (l a b : List Int) : appD l (a ++ b) = appD (appD l a) b := by unfold appD; rw [List.foldl_append]
theorem appD_length : ∀ (ds l : List Int), (appD l ds).length = l.length + ds.length
  | [], l => by simp [appD]
  | d :: ds, l => by
    have := appD_length ds (l ++ [wrap64 (rd l ((l.length : Int) - 1) + d)])
    unfold appD at *
    rw [List.foldl_cons, this]
    simp; omega
theorem addS_row (n least : Int) : ∀ (cut : List Int) (m : Nat) (l : List Int), (∀ x ∈ cut, inI x) → (l.length : Int) + cut.length ≤ n → (m = 0 ∨ (l.length : Int) + cut.length = n) → addS n least (cut.map (difW least) ++ List.replicate m 0) l = appD l cut
  | [], 0, l, _, _, _ => rfl
  | [], m + 1, l, _, h, hm => by
    have : (l.length : Int) = n := by rcases hm with h | h; omega; simpa using h
    simp only [List.map_nil, List.nil_append, List.replicate_succ, addS, if_pos this]; rfl
  | d :: cut, m, l, hx, h, hm => by
    have hd := hx d (by simp)
    rw [List.length_cons] at h hm
    rw [List.map_cons, List.cons_append, addS, if_neg (by omega)]
    have e : wrap64 (least + difW least d) = d := by
      have := hd.1; have := hd.2
      unfold difW wrap64; omega
    rw [e, addS_row n least cut m _ (fun x hx' => hx x (by simp [hx'])) (by simp; omega) (by simp; omega)]
    rfl
theorem cutW_drop (d : List Int) (i : Nat) : d.drop (32 * i) = cutW d i ++ d.drop (32 * (i + 1)) := by
  unfold cutW
  rw [show 32 * (i + 1) = 32 * i + 32 by omega, ← List.drop_drop, List.take_append_drop]
theorem cutW_len (d : List Int) (i : Nat) : (cutW d i).length = min 32 (d.length - 32 * i) := by unfold cutW; rw [List.length_take, List.length_drop]
theorem partsS_back (n fr least : Int) (d : List Int) (hx : ∀ x ∈ d, inI x) (hn : d.length ≤ 128) : ∀ (m i : Nat) (l tl : List Int), npW d = i + m → (l.length : Int) + (d.length - 32 * i : Nat) ≤ n → fr + d.length ≤ n → (d.length = 128 ∨ fr + d.length = n) → (l.length : Int) + (d.length - 32 * i : Nat) = fr + d.length →
    partsS n fr least (wsR least d m i ++ List.replicate (4 - npW d) 0) i l (psR least d m i ++ tl) = .ok (appD l (d.drop (32 * i)), tl)
  | 0, i, l, tl, hm, h1, h2, h3, h4 => by
    have hd : d.drop (32 * i) = [] := List.drop_of_length_le (by unfold npW at hm; omega)
    rw [hd]
    simp only [wsR, psR, List.nil_append]
    by_cases c : 4 - npW d = 0
    · rw [c]; rfl
    · obtain ⟨z, hz⟩ : ∃ z, 4 - npW d = z + 1 := ⟨4 - npW d - 1, by omega⟩
      rw [hz, List.replicate_succ, partsS, if_pos (by unfold npW at hm hz; omega)]
      rfl
  | m + 1, i, l, tl, hm, h1, h2, h3, h4 => by
    have hr := topW_range least (cutW d i)
    have hcl := cutW_len d i
    have hcx : ∀ x ∈ cutW d i, inI x := fun x h => hx x (List.mem_of_mem_drop (List.mem_of_mem_take h))
    simp only [wsR, psR, List.cons_append, List.append_assoc]
    rw [partsS, if_neg (by unfold npW at hm; omega)]
    have hb := packed_back (W := (topW least (cutW d i)).toNat) (xs := rowW least (cutW d i)) (by omega) (rowW_length least _ (cutW_length d i)) (row_fits least _) (psR least d m (i + 1) ++ tl)
    unfold pakB
    rw [hb, andS_ok]
    have hrow : addS n least (rowW least (cutW d i)) l = appD l (cutW d i) := by
      unfold rowW
      refine addS_row n least _ _ l hcx (by omega) ?_
      unfold npW at hm
      omega
    have hal := appD_length (cutW d i) l
    rw [hrow, partsS_back n fr least d hx hn m (i + 1) (appD l (cutW d i)) tl (by omega) (by unfold npW at hm; omega) h2 h3 (by unfold npW at hm; omega), ← appD_append, ← cutW_drop]
end Go.Proofs.Ytbncfhmfohpfbaa.D13
end

section
namespace Go.Proofs.Ytbncfhmfohpfbaa.D13
set_option linter.unusedVariables false
set_option linter.unusedSimpArgs false
open Go.RowKit Go.Proofs.Ytbncfhmfohpfbaa.X Go.Proofs.YtbncfhmfohpfbaaW.PrintWords Go.Proofs.YtbncfhmfohpfbaaW.PrintLast Go.Proofs.YtbncfhmfohpfbaaW.PrintMore Go.Proofs.Ytbncfhmfohpfbaa.Bx Go.Proofs.Ytbncfhmfohpfbaa.Nx Go.Proofs.Ytbncfhmfohpfbaa.Px
theorem rd_lt (L : List Int) (i : Nat) (h : i < L.length) : rd L (i : Int) = L[i] := by
  unfold rd
  rw [List.getD_eq_getElem?_getD, show ((i : Int)).toNat = i from rfl, List.getElem?_eq_getElem h]; rfl
theorem rd_take (L : List Int) (a i : Nat) (h : i < a) (ha : a ≤ L.length) : rd (L.take a) (i : Int) = rd L (i : Int) := by
  rw [rd_lt _ i (by rw [List.length_take]; omega), rd_lt L i (by omega), List.getElem_take]
theorem take_snoc (L : List Int) (a : Nat) (h : a < L.length) : L.take (a + 1) = L.take a ++ [rd L (a : Int)] := by
  rw [List.take_succ_eq_append_getElem h, rd_lt L a h]
theorem difs_back (L : List Int) (hx : ∀ x ∈ L, inI x) (a : Nat) (ha : 1 ≤ a) : ∀ m, a + m ≤ L.length → appD (L.take a) (difD L a m) = L.take (a + m)
  | 0, h => rfl
  | m + 1, h => by
    have ih := difs_back L hx a ha m (by omega)
    rw [difD_succ, appD_append, ih]
    show L.take (a + m) ++ [wrap64 (rd (L.take (a + m)) (((L.take (a + m)).length : Int) - 1) + wrap64 (rd L ((a : Int) + (m : Int)) - rd L ((a : Int) + (m : Int) - 1)))] = _
    have hl : (L.take (a + m)).length = a + m := by rw [List.length_take]; omega
    have e1 : (((L.take (a + m)).length : Int) - 1) = ((a + m - 1 : Nat) : Int) := by rw [hl]; omega
    have e2 : (a : Int) + (m : Int) = ((a + m : Nat) : Int) := by omega
    have e3 : (a : Int) + (m : Int) - 1 = ((a + m - 1 : Nat) : Int) := by omega
    rw [e3, e2, e1, rd_take L _ _ (by omega) (by omega), show a + (m + 1) = (a + m) + 1 by omega, take_snoc L (a + m) (by omega)]
    have hi := hx _ (List.getElem_mem (show a + m < L.length by omega))
    rw [← rd_lt L (a + m) (by omega)] at hi
    generalize rd L ((a + m : Nat) : Int) = u at *
    generalize rd L ((a + m - 1 : Nat) : Int) = v
    congr 2
    obtain ⟨h1, h2⟩ := hi
    unfold wrap64
    omega
theorem difD_in (L : List Int) (a : Int) (m : Nat) : ∀ x ∈ difD L a m, inI x := by
  intro x hx
  obtain ⟨j, _, rfl⟩ := List.mem_map.1 hx
  exact wrap_in _
theorem loop_back (L : List Int) (hx : ∀ x ∈ L, inI x) : ∀ (dd kk fr : Nat) (tl : List Int), 1 ≤ fr → (L.length : Int) - fr < 128 * dd → (L.length : Int) - fr < 128 * kk →
    loopS (L.length : Int) kk (fr : Int) (L.take fr) ((blksD L dd fr).flatMap blkB ++ tl) = .ok (L, tl)
  | 0, kk, fr, tl, h1, h2, h3 => by
    have hL : L.take fr = L := List.take_of_length_le (by omega)
    rw [hL]
    cases kk with
    | zero => rfl
    | succ kk => rw [loopS, if_neg (by omega)]; rfl
  | dd + 1, kk, fr, tl, h1, h2, h3 => by
    by_cases c : (fr : Int) < (L.length : Int)
    · obtain ⟨kk, rfl⟩ : ∃ j, kk = j + 1 := ⟨kk - 1, by omega⟩
      obtain ⟨m, hm⟩ : ∃ m, m = (min (L.length : Int) ((fr : Int) + 128) - (fr : Int)).toNat := ⟨_, rfl⟩
      obtain ⟨T, hT⟩ : ∃ T, T = (blksD L dd (fr + 128)).flatMap blkB ++ tl := ⟨_, rfl⟩
      rw [blksD, if_pos c, ← hm, List.flatMap_cons, loopS, if_pos c, List.append_assoc, ← hT]
      have hd := difD_in L fr m
      have hdl := difD_length L fr m
      have hmin := minD_in hd
      unfold blkB
      simp only [List.append_assoc]
      rw [signed_back hmin.1 hmin.2, andS_ok]
      have hw := widS_back (L.length : Int) fr (minD (difD L fr m)) (difD L fr m) (npW (difD L fr m)) (4 - npW (difD L fr m)) 0
      have hnp : npW (difD L fr m) ≤ 4 := by unfold npW; omega
      rw [show npW (difD L fr m) + (4 - npW (difD L fr m)) = 4 by omega] at hw
      have hw2 := hw (psR (minD (difD L fr m)) (difD L fr m) (npW (difD L fr m)) 0 ++ T) (fun j hj => by unfold npW at hj; omega)
      simp only [List.append_assoc] at hw2
      have hblk : ((fr : Int) + 128) = ((fr + 128 : Nat) : Int) := by omega
      rw [hw2, andS_ok]
      have hp := partsS_back (L.length : Int) fr (minD (difD L fr m)) (difD L fr m) hd (by omega) (npW (difD L fr m)) 0 (L.take fr) T (by omega) (by rw [List.length_take]; omega) (by omega) (by omega) (by rw [List.length_take]; omega)
      rw [hp, andS_ok, Nat.mul_zero, List.drop_zero, difs_back L hx fr h1 m (by omega)]
      have ht : L.take (fr + m) = L.take (fr + 128) := by
        by_cases e : m = 128
        · rw [e]
        · rw [List.take_of_length_le (by omega), List.take_of_length_le (by omega)]
      rw [ht, hT, hblk]
      exact loop_back L hx dd kk (fr + 128) tl (by omega) (by omega) (by omega)
    · have hL : L.take fr = L := List.take_of_length_le (by omega)
      rw [hL, blksD, if_neg c]
      cases kk with
      | zero => rfl
      | succ kk => rw [loopS, if_neg (by omega)]; rfl
def listB (L : List Int) : List Int := [128, 1, 4] ++ (vb L.length ++ if L.length = 0 then [0] else vb (zz (rd L 0)).toNat ++ (allD L).flatMap blkB)
theorem blksD_ok (L : List Int) : ∀ (dd : Nat) (at_ : Int), ∀ d ∈ blksD L dd at_, (∀ x ∈ d, inI x) ∧ 0 < d.length ∧ d.length ≤ 128
  | 0, _, d, h => by cases h
  | dd + 1, at_, d, h => by
    rw [blksD] at h
    split at h
    · rcases List.mem_cons.1 h with rfl | h
      · exact ⟨difD_in _ _ _, by rw [difD_length]; omega, by rw [difD_length]; omega⟩
      · exact blksD_ok L dd _ d h
    · cases h
theorem blksD_count (L : List Int) : ∀ (dd : Nat) (at_ : Int), (blksD L dd at_).length ≤ dd
  | 0, _ => Nat.le_refl _
  | dd + 1, at_ => by
    rw [blksD]
    split
    · rw [List.length_cons]; exact Nat.succ_le_succ (blksD_count L dd _)
    · simp
theorem laids_eq {k : Nat} (hk : 3000 ≤ k) : ∀ (ds : List (List Int)) (out : List Int), (∀ d ∈ ds, (∀ x ∈ d, inI x) ∧ 0 < d.length ∧ d.length ≤ 128) → out.length + 1040 * ds.length ≤ 99999990 → ds.foldlM (laidF k) out = some (out ++ ds.flatMap blkB)
  | [], out, _, _ => by simp
  | d :: ds, out, h, hl => by
    obtain ⟨h1, h2, h3⟩ := h d (by simp)
    have hb := blkB_length h1 h3
    rw [List.length_cons] at hl
    rw [List.foldlM_cons, laid_eq hk h1 h2 h3 (by omega)]
    show ds.foldlM (laidF k) (out ++ blkB d) = _
    rw [laids_eq hk ds _ (fun d hd => h d (by simp [hd])) (by rw [List.length_append]; omega)]
    simp
theorem rd0_in {L : List Int} (hx : ∀ x ∈ L, inI x) : inI (rd L 0) := by
  cases L with
  | nil => exact ⟨by decide, by decide⟩
  | cons x L => exact hx x (by simp)
theorem writeB_eq {k : Nat} (hk : 3000 ≤ k) {L : List Int} (hx : ∀ x ∈ L, inI x) (hl : L.length ≤ 65536) : writeB k L = some (listB L) := by
  have h0 := rd0_in hx
  have hz := zz_range h0.1 h0.2
  have hv := vb_length64 (n := (zz (rd L 0)).toNat) (by omega)
  have hv2 := vb_length64 (n := L.length) (by omega)
  have hn := number (k := k) (acc := [128, 1, 4]) (x := (L.length : Int)) (by omega) (by simp) (by omega) (by omega)
  rw [show ((L.length : Int)).toNat = L.length from rfl] at hn
  unfold writeB listB
  rw [hn, Option.bind_some]
  by_cases c : L.length = 0
  · rw [if_pos c, if_pos c]; simp
  · have hc := blksD_count L 600 1
    rw [if_neg c, if_neg c, signed (by omega) (by rw [List.length_append, List.length_cons, List.length_cons, List.length_cons, List.length_nil]; omega) h0.1 h0.2, Option.bind_some, laids_eq hk (allD L) _ (blksD_ok L 600 1) (by
      simp only [List.length_append, List.length_cons, List.length_nil]
      have : (allD L).length ≤ 600 := hc
      omega)]
    simp only [List.append_assoc]
theorem list_back {L : List Int} (hx : ∀ x ∈ L, inI x) (hl : L.length ≤ 65536) (tl : List Int) : listS (listB L ++ tl) = .ok (L, tl) := by
  have h0 := rd0_in hx
  have hz := zz_range h0.1 h0.2
  have e128 : vb 128 = [128, 1] := by rw [vb_big (by omega), vb_small (by omega)]; rfl
  have e4 : vb 4 = [4] := by rw [vb_small (by omega)]; rfl
  have e0 : vb 0 = [0] := by rw [vb_small (by omega)]; rfl
  have eh : ([128, 1, 4] : List Int) = vb 128 ++ vb 4 := by rw [e128, e4]; rfl
  unfold listB listS wantS
  rw [eh]
  simp only [List.append_assoc]
  rw [numS_back (by omega), andS_ok, if_pos (by rfl)]
  rw [numS_back (by omega), andS_ok, if_pos (by rfl)]
  unfold tailS
  rw [numS_back (by omega), andS_ok, if_pos (by omega)]
  by_cases c : L.length = 0
  · rw [if_pos c]
    have hL : L = [] := List.length_eq_zero_iff.1 c
    subst hL
    have es : mapS sgnV (numS 0 0 ([0] ++ tl)) = .ok ((0 : Int), tl) := by
      have := signed_back (y := 0) (by omega) (by omega) tl
      rw [show (zz 0).toNat = 0 by decide, e0] at this
      exact this
    rw [es, andS_ok, if_pos (.inr rfl), if_pos (by rfl)]
  · rw [if_neg c]
    simp only [List.append_assoc]
    rw [signed_back h0.1 h0.2, andS_ok, if_pos (.inl (by omega)), if_neg (by omega)]
    have hf : [rd L 0] = L.take 1 := by
      have := take_snoc L 0 (by omega)
      rw [this]; rfl
    rw [hf]
    have := loop_back L hx 600 513 1 tl (by omega) (by omega) (by omega)
    exact this
theorem wsR_range (least : Int) (d : List Int) : ∀ (m i : Nat), ∀ x ∈ wsR least d m i, 0 ≤ x ∧ x ≤ 255
  | 0, _, x, h => by cases h
  | m + 1, i, x, h => by
    have := topW_range least (cutW d i)
    rcases List.mem_cons.1 h with rfl | h
    · omega
    · exact wsR_range least d m _ x h
theorem psR_range (least : Int) (d : List Int) : ∀ (m i : Nat), ∀ x ∈ psR least d m i, 0 ≤ x ∧ x ≤ 255
  | 0, _, x, h => by cases h
  | m + 1, i, x, h => by
    rcases List.mem_append.1 h with h | h
    · exact packB_range (allBits_range _ _) x h
    · exact psR_range least d m _ x h
theorem blkB_range (d : List Int) : ∀ x ∈ blkB d, 0 ≤ x ∧ x ≤ 255 := by
  intro x h
  unfold blkB at h
  rcases List.mem_append.1 h with h | h
  · rcases List.mem_append.1 h with h | h
    · exact vb_range _ x h
    · rcases List.mem_append.1 h with h | h
      · exact wsR_range _ _ _ _ x h
      · obtain ⟨_, rfl⟩ := List.mem_replicate.1 h; omega
  · exact psR_range _ _ _ _ x h
theorem listB_range (L : List Int) : ∀ x ∈ listB L, 0 ≤ x ∧ x ≤ 255 := by
  intro x h
  unfold listB at h
  rcases List.mem_append.1 h with h | h
  · simp at h; omega
  rcases List.mem_append.1 h with h | h
  · exact vb_range _ x h
  split at h
  · simp at h; omega
  · rcases List.mem_append.1 h with h | h
    · exact vb_range _ x h
    · obtain ⟨d, _, hd⟩ := List.mem_flatMap.1 h
      exact blkB_range d x hd
theorem flat_short : ∀ (ds : List (List Int)), (∀ d ∈ ds, (∀ x ∈ d, inI x) ∧ 0 < d.length ∧ d.length ≤ 128) → (ds.flatMap blkB).length ≤ 1040 * ds.length
  | [], _ => by simp
  | d :: ds, h => by
    obtain ⟨h1, h2, h3⟩ := h d (by simp)
    have := blkB_length h1 h3
    have := flat_short ds (fun d hd => h d (by simp [hd]))
    rw [List.flatMap_cons, List.length_append, List.length_cons]
    omega
theorem listB_short {L : List Int} (hx : ∀ x ∈ L, inI x) (hl : L.length ≤ 65536) : (listB L).length ≤ 700000 := by
  have h0 := rd0_in hx
  have hz := zz_range h0.1 h0.2
  have hv := vb_length64 (n := (zz (rd L 0)).toNat) (by omega)
  have hv2 := vb_length64 (n := L.length) (by omega)
  have h3 := flat_short (allD L) (blksD_ok L 600 1)
  have h4 : (allD L).length ≤ 600 := blksD_count L 600 1
  unfold listB
  split
  · simp only [List.length_append, List.length_cons, List.length_nil]; omega
  · simp only [List.length_append, List.length_cons, List.length_nil]; omega
theorem write_eq {k : Nat} (hk : 3000 ≤ k) {L : List Int} (hx : ∀ x ∈ L, inI x) (hl : L.length ≤ 65536) : delta_Write.f k L = some (listB L, 0) := by
  unfold delta_Write.f
  rw [if_neg (by omega), writeB_eq hk hx hl]; rfl
theorem write_many {k : Nat} {L : List Int} (hl : 65536 < L.length) : delta_Write.f k L = some ([], 3) := by
  unfold delta_Write.f
  rw [if_pos (by omega)]
theorem addS_in (n least : Int) : ∀ (xs l : List Int), (∀ x ∈ l, inI x) → ∀ x ∈ addS n least xs l, inI x
  | [], l, h => h
  | y :: xs, l, h => by
    rw [addS]
    split
    · exact h
    · refine addS_in n least xs _ fun x hx => ?_
      rcases List.mem_append.1 hx with hx | hx
      · exact h x hx
      · rw [List.mem_singleton.1 hx]; exact wrap_in _
theorem andS_inv {α β : Type} {r : Except Int (α × List Int)} {k : α → List Int → Except Int (β × List Int)} {v : β} {b : List Int} (h : andS r k = .ok (v, b)) : ∃ v1 b1, r = .ok (v1, b1) ∧ k v1 b1 = .ok (v, b) := by
  cases r with
  | error x => rw [andS_err] at h; cases h
  | ok p => exact ⟨p.1, p.2, rfl, h⟩
theorem partsS_in (n fr least : Int) : ∀ (ws : List Int) (i : Nat) (l b l' r : List Int), (∀ x ∈ l, inI x) → partsS n fr least ws i l b = .ok (l', r) → ∀ x ∈ l', inI x
  | [], i, l, b, l', r, hl, h => by
    obtain ⟨rfl, _⟩ : l = l' ∧ b = r := by simpa [partsS] using h
    exact hl
  | w :: ws, i, l, b, l', r, hl, h => by
    rw [partsS] at h
    split at h
    · obtain ⟨rfl, _⟩ : l = l' ∧ b = r := by simpa using h
      exact hl
    · obtain ⟨v1, b1, _, h⟩ := andS_inv h
      exact partsS_in n fr least ws _ _ _ l' r (addS_in n least v1 l hl) h
theorem loopS_in (n : Int) : ∀ (k : Nat) (fr : Int) (l b l' r : List Int), (∀ x ∈ l, inI x) → loopS n k fr l b = .ok (l', r) → ∀ x ∈ l', inI x
  | 0, fr, l, b, l', r, hl, h => by
    obtain ⟨rfl, _⟩ : l = l' ∧ b = r := by simpa [loopS] using h
    exact hl
  | k + 1, fr, l, b, l', r, hl, h => by
    rw [loopS] at h
    split at h
    · obtain ⟨v1, b1, _, h⟩ := andS_inv h
      obtain ⟨v2, b2, _, h⟩ := andS_inv h
      obtain ⟨v3, b3, h3, h⟩ := andS_inv h
      exact loopS_in n k _ v3 b3 l' r (partsS_in n fr _ _ _ _ _ _ _ hl h3) h
    · obtain ⟨rfl, _⟩ : l = l' ∧ b = r := by simpa using h
      exact hl
theorem sgnV_in (n : Int) : inI (sgnV n) := by
  unfold sgnV
  show inI (IntKind.i64.wrap _)
  rw [IntKind.wrap_i64]
  unfold inI
  omega
theorem mapS_inv {α β : Type} {f : α → β} {r : Except Int (α × List Int)} {v : β} {b : List Int} (h : mapS f r = .ok (v, b)) : ∃ v1, v = f v1 := by
  cases r with
  | error x => simp [mapS] at h
  | ok p => simp [mapS] at h; exact ⟨p.1, h.1.symm⟩
theorem listS_in {b l r : List Int} (h : listS b = .ok (l, r)) : ∀ x ∈ l, inI x := by
  unfold listS wantS at h
  obtain ⟨v1, b1, _, h⟩ := andS_inv h
  split at h
  · obtain ⟨v2, b2, _, h⟩ := andS_inv h
    split at h
    · unfold tailS at h
      obtain ⟨v3, b3, _, h⟩ := andS_inv h
      split at h
      · obtain ⟨v4, b4, h4, h⟩ := andS_inv h
        split at h
        · split at h
          · obtain ⟨rfl, _⟩ : [] = l ∧ b4 = r := by simpa using h
            simp
          · obtain ⟨y, rfl⟩ := mapS_inv h4
            refine loopS_in _ _ _ _ _ _ _ (fun x hx => ?_) h
            rw [List.mem_singleton.1 hx]
            exact sgnV_in y
        · cases h
      · cases h
    · cases h
  · cases h
def beginR (b : List Int) : List Int × Int × Int :=
  match listS b with
  | .error x => ([], 0, x)
  | .ok (l, r) => if (strOfNums (listB l)).toList = (strOfNums (b.take (b.length - r.length))).toList then (l, ((b.length - r.length : Nat) : Int), 0) else ([], 0, 8)
theorem begin_eq {k : Nat} (hk : 3000 ≤ k) {b : List Int} (hu : ∀ x ∈ b, 0 ≤ x ∧ x ≤ 255) : delta_Begin.f k b = some (beginR b) := by
  unfold delta_Begin.f
  rw [if_pos (u8All_iff.2 hu)]
  unfold beginF beginR
  cases h : listS b with
  | error x => rfl
  | ok p =>
    obtain ⟨l, r⟩ := p
    simp only []
    rw [writeB_eq hk (listS_in h) (listS_len h), Option.bind_some]
    unfold bytes_Equal.f
    rw [Option.bind_some]
    by_cases c : (strOfNums (listB l)).toList = (strOfNums (b.take (b.length - r.length))).toList
    · rw [if_pos c, if_pos (by simp [c])]
    · rw [if_neg c, if_neg (by simp [c])]
theorem begin_back {L : List Int} (hx : ∀ x ∈ L, inI x) (hl : L.length ≤ 65536) (tl : List Int) : beginR (listB L ++ tl) = (L, ((listB L).length : Int), 0) := by
  unfold beginR
  rw [list_back hx hl]
  simp only []
  have e : (listB L ++ tl).length - tl.length = (listB L).length := by rw [List.length_append]; omega
  rw [e, List.take_left', if_pos rfl]
  rfl
end Go.Proofs.Ytbncfhmfohpfbaa.D13
end

section
namespace Go.Proofs.Ytbncfhmfohpfbaa.D13
set_option linter.unusedVariables false
set_option linter.unusedSimpArgs false
open Go.RowKit Go.Proofs.Ytbncfhmfohpfbaa.X Go.Proofs.YtbncfhmfohpfbaaW.PrintWords Go.Proofs.YtbncfhmfohpfbaaW.PrintLast Go.Proofs.YtbncfhmfohpfbaaW.PrintMore Go.Proofs.Ytbncfhmfohpfbaa.Bx Go.Proofs.Ytbncfhmfohpfbaa.Nx Go.Proofs.Ytbncfhmfohpfbaa.Px
theorem same_l (l : List Int) (hl : l.length ≤ 1000000000) : ∀ (d k i : Nat), i + d = l.length → d < k → marquetrylaw13_same.l0 k l l (i : Int) = some true
  | 0, k, i, h, hk => by
    obtain ⟨k, rfl⟩ : ∃ j, k = j + 1 := ⟨k - 1, by omega⟩
    rw [marquetrylaw13_same.l0, if_neg (by omega)]
  | d + 1, k, i, h, hk => by
    obtain ⟨k, rfl⟩ : ∃ j, k = j + 1 := ⟨k - 1, by omega⟩
    rw [marquetrylaw13_same.l0, if_pos (by omega), if_pos (by omega), if_pos (by omega), if_pos rfl, w64 (by omega) (by omega)]
    exact same_l l hl d k (i + 1) (by omega) (by omega)
theorem same {k : Nat} {l : List Int} (hl : l.length ≤ 1000000000) (hk : l.length < k) : marquetrylaw13_same.f k l l = some true := by
  unfold marquetrylaw13_same.f
  rw [if_pos rfl]
  exact same_l l hl l.length k 0 (by omega) hk
def readR (b : List Int) (count : Int) : List Int × Int :=
  if count < 0 ∨ 65536 < count then ([], 2) else
    if (beginR b).2.2 = 0 then (if ((beginR b).1.length : Int) = count then (if (beginR b).2.1 < (b.length : Int) then ([], 7) else ((beginR b).1, 0)) else ([], 8)) else ([], (beginR b).2.2)
theorem read_eq {k : Nat} (hk : 3001 ≤ k) {b : List Int} (hu : ∀ x ∈ b, 0 ≤ x ∧ x ≤ 255) (count : Int) : delta_Read.f k b count = some (readR b count) := by
  obtain ⟨k, rfl⟩ : ∃ j, k = j + 1 := ⟨k - 1, by omega⟩
  unfold delta_Read.f readR
  by_cases c : count < 0
  · rw [if_pos c, if_pos (.inl c), delta_Read.j0, if_pos rfl]
  · rw [if_neg c]
    by_cases c2 : count > 65536
    · rw [if_pos (.inr c2), decide_eq_true c2, delta_Read.j0, if_pos rfl]
    · rw [if_neg (by omega), decide_eq_false c2, delta_Read.j0, if_neg (by decide), begin_eq (by omega) hu, Option.bind_some]
      split
      · split
        · split <;> rfl
        · rfl
      · rfl
theorem read_back {L : List Int} (hx : ∀ x ∈ L, inI x) (hl : L.length ≤ 65536) : readR (listB L) (L.length : Int) = (L, 0) := by
  have := begin_back hx hl []
  rw [List.append_nil] at this
  unfold readR
  rw [this, if_neg (by omega), if_pos rfl, if_pos rfl, if_neg (show ¬ ((listB L).length : Int) < ((listB L).length : Int) by omega)]
def vbF : Nat → Nat → List Int
  | 0, n => [(n : Int)]
  | f + 1, n => if n < 128 then [(n : Int)] else ((n % 128 + 128 : Nat) : Int) :: vbF f (n / 128)
theorem vb_F : ∀ (f n : Nat), n < 128 ^ (f + 1) → vb n = vbF f n
  | 0, n, h => vb_small (by simpa using h)
  | f + 1, n, h => by
    rw [vbF]
    split
    · rename_i c; exact vb_small c
    · rw [vb_big (by omega), vb_F f (n / 128) (by rw [Nat.pow_succ] at h; omega)]
def L1 : List Int := [7, 5, 3, 1, 2, 3, 4, 5]
def L2 : List Int := [-9223372036854775808, 9223372036854775807]
theorem L1_in : ∀ x ∈ L1, inI x := by intro x h; simp [L1] at h; unfold inI; omega
theorem L2_in : ∀ x ∈ L2, inI x := by intro x h; simp [L2] at h; unfold inI; omega
theorem L1_bytes : listB L1 = [128, 1, 4, 8, 14, 3, 2, 0, 0, 0, 192, 63, 0, 0, 0, 0, 0, 0] := by
  have e1 : allD L1 = [[-2, -2, -2, 1, 1, 1, 1]] := by kernel_rfl
  have e2 : blkB [-2, -2, -2, 1, 1, 1, 1] = vb 3 ++ [2, 0, 0, 0, 192, 63, 0, 0, 0, 0, 0, 0] := by kernel_rfl
  unfold listB
  rw [e1, List.flatMap_cons, e2, show vb L1.length = [8] from vb_small (by decide), show vb (zz (rd L1 0)).toNat = [14] from vb_small (by decide), show vb 3 = [3] from vb_small (by decide)]
  rfl
theorem L2_bytes : (listB L2).length = 19 := by
  have e1 : allD L2 = [[-1]] := by kernel_rfl
  have e2 : blkB [-1] = vb 1 ++ [0, 0, 0, 0] := by kernel_rfl
  have e3 : vb (zz (rd L2 0)).toNat = vbF 9 18446744073709551615 := vb_F 9 _ (by decide)
  unfold listB
  rw [e1, List.flatMap_cons, e2, e3, show vb L2.length = [2] from vb_small (by decide), show vb 1 = [1] from vb_small (by decide)]
  rfl
theorem works {k : Nat} (hk : 3001 ≤ k) : marquetrylaw13_works.f k = some true := by
  have h1 := write_eq (k := k) (by omega) L1_in (by decide)
  have h2 := write_eq (k := k) (by omega) L2_in (by decide)
  have hu := listB_range L1
  have h3 := begin_eq (k := k) (by omega) (b := listB L1 ++ [9]) (fun x hx => by
    rcases List.mem_append.1 hx with h | h
    · exact hu x h
    · simp at h; omega)
  rw [begin_back L1_in (by decide) [9]] at h3
  have h4 : delta_Read.f k (listB L1) 8 = some (L1, 0) := (read_eq (k := k) hk hu 8).trans (congrArg some (read_back L1_in (by decide)))
  have hs := same (k := k) (l := L1) (by decide) (by have : L1.length = 8 := rfl; omega)
  have hl2 := L2_bytes
  unfold marquetrylaw13_works.f
  rw [show ([7, 5, 3, 1, 2, 3, 4, 5] : List Int) = L1 from rfl, h1, Option.bind_some, Option.bind_some]
  rw [L1_bytes] at h3 h4 ⊢
  rw [if_pos (by decide), Option.bind_some, if_pos (by decide), List.nil_append, h3, Option.bind_some]
  rw [show ([-9223372036854775808, 9223372036854775807] : List Int) = L2 from rfl, h2, Option.bind_some]
  rw [h4, Option.bind_some, if_pos (by kernel_rfl)]
  unfold marquetrylaw13_num.f
  rw [Option.bind_some, Option.bind_some, Option.bind_some, if_pos (by kernel_rfl), hs, Option.bind_some, if_pos rfl, if_pos (by rfl), Option.bind_some, if_pos (by rfl), if_pos (by rw [hl2]; rfl)]
  rfl
end Go.Proofs.Ytbncfhmfohpfbaa.D13
end

section
namespace Go.Proofs.Ytbncfhmfohpfbaa.X
open Go.RowKit Go.Proofs.YtbncfhmfohpfbaaW.PrintWords Go.Proofs.YtbncfhmfohpfbaaW.PrintLast Go.Proofs.YtbncfhmfohpfbaaW.PrintMore
set_option linter.unusedVariables false
set_option linter.unusedSimpArgs false
theorem works_true (w : World) : Calls Try.prog 11 #[] w fun e w' => e = .returned (.bool true) ∧ Below w.heap.size w w' := marquetrylaw13_works.calls 4000 true w (D13.works (by decide))
theorem num_same (x : Int) (w : World) : Calls Try.prog 15 #[.int .i64 x] w fun e w' => e = .returned (.int .i64 x) ∧ Drawn0 w w' := marquetrylaw13_num.calls x x w rfl
def ErrS {α : Type} (res : Except Int (α × List Int)) : Prop := ∀ x, res = .error x → x = 6 ∨ x = 8
theorem ErrS.ok {α : Type} (v : α) (b : List Int) : ErrS (.ok (v, b)) := fun _ h => by cases h
theorem ErrS.e8 {α : Type} : ErrS (.error 8 : Except Int (α × List Int)) := fun _ h => by cases h; exact .inr rfl
theorem ErrS.and {α β : Type} {r : Except Int (α × List Int)} {k : α → List Int → Except Int (β × List Int)} (h : ErrS r) (hk : ∀ v b, ErrS (k v b)) : ErrS (andS r k) := by
  intro x hx
  cases r with
  | error y => rw [andS_err] at hx; cases hx; exact h _ rfl
  | ok p => exact hk p.1 p.2 x hx
theorem ErrS.map {α β : Type} {f : α → β} {r : Except Int (α × List Int)} (h : ErrS r) : ErrS (mapS f r) := by
  intro x hx
  cases r with
  | error y => simp [mapS] at hx; subst hx; exact h _ rfl
  | ok p => simp [mapS] at hx
end Go.Proofs.Ytbncfhmfohpfbaa.X
end

section
namespace Go.Proofs.Ytbncfhmfohpfbaa.X
open Go.RowKit Go.Proofs.YtbncfhmfohpfbaaW.PrintWords Go.Proofs.YtbncfhmfohpfbaaW.PrintLast Go.Proofs.YtbncfhmfohpfbaaW.PrintMore
set_option linter.unusedVariables false
set_option linter.unusedSimpArgs false
def bndV (j : Nat) : Int := (j : Int) % 7 * 1000000007
def bndL (i : Nat) : List Int := (List.range i).map bndV ++ List.replicate (65537 - i) 0
theorem bndL_length {i : Nat} (h : i ≤ 65537) : (bndL i).length = 65537 := by simp [bndL]; omega
theorem bndL_zero : bndL 0 = List.replicate 65537 0 := rfl
theorem bndL_set {i : Nat} (h : i < 65537) : (bndL i).set i (bndV i) = bndL (i + 1) := by
  have e : 65537 - i = (65537 - (i + 1)) + 1 := by omega
  unfold bndL
  rw [e, List.replicate_succ, List.set_append_right _ _ (by simp), List.length_map, List.length_range, Nat.sub_self, List.set_cons_zero, List.range_succ, List.map_append]
  simp
theorem bndL_in (i : Nat) : ∀ x ∈ bndL i, D13.inI x := by
  intro x hx
  rcases List.mem_append.1 hx with h | h
  · obtain ⟨j, _, rfl⟩ := List.mem_map.1 h
    unfold bndV D13.inI; omega
  · obtain ⟨_, rfl⟩ := List.mem_replicate.1 h
    exact ⟨by decide, by decide⟩
theorem begin_many (t : List Int) : D13.beginR ([128, 1, 4, 129, 128, 4] ++ t) = ([], 0, 8) := by
  have e128 : D13.vb 128 = [128, 1] := by rw [D13.vb_big (by omega), D13.vb_small (by omega)]; rfl
  have e4 : D13.vb 4 = [4] := by rw [D13.vb_small (by omega)]; rfl
  have e5 : D13.vb 65537 = [129, 128, 4] := by rw [D13.vb_big (by omega), D13.vb_big (by omega), D13.vb_small (by omega)]; rfl
  have e : [128, 1, 4, 129, 128, 4] ++ t = D13.vb 128 ++ (D13.vb 4 ++ (D13.vb 65537 ++ t)) := by rw [e128, e4, e5]; rfl
  have : listS ([128, 1, 4, 129, 128, 4] ++ t) = .error 8 := by
    rw [e]
    unfold listS wantS
    rw [D13.numS_back (by omega), andS_ok, if_pos (by rfl)]
    dsimp only
    rw [D13.numS_back (by omega), andS_ok, if_pos (by rfl)]
    unfold tailS
    rw [D13.numS_back (by omega), andS_ok, if_neg (by omega)]
  unfold D13.beginR
  rw [this]
theorem lit6_own (w0 w : World) (hB : Below w0.heap.size w0 w) : (w.alloc (.cells #[.int .u8 128, .int .u8 1, .int .u8 4, .int .u8 129, .int .u8 128, .int .u8 4] 5)).ownsRow w0.heap.size 5 1 (.slice (some ⟨w.heap.size, 0, none⟩) 6 6) [(128 : Int), 1, 4, 129, 128, 4].length (nums .u8 [128, 1, 4, 129, 128, 4]) :=
  ⟨rfl, .inr ⟨w.heap.size, 6, #[.int .u8 128, .int .u8 1, .int .u8 4, .int .u8 129, .int .u8 128, .int .u8 4], rfl, hB.size, blk_new _ _, Nat.le_refl _, by decide, rfl, rfl⟩⟩
theorem gb_grow {w W w5 : World} {cs : Array Value} {e : TypeId} {n : Nat} {xs : List Value} (hg : (W.alloc (.cells cs e)).grownBy w5 (Value.slice (some ⟨W.heap.size, 0, none⟩) 6 6).ownBlock) (h : (W.alloc (.cells cs e)).ownsRow w.heap.size 5 1 (.slice (some ⟨W.heap.size, 0, none⟩) 6 6) n xs) : Below W.heap.size W w5 :=
  (below_alloc (Below.refl W.heap.size W) (.cells cs e)).grown hg (below_alloc (Below.refl W.heap.size W) (.cells cs e)).size (fun r he => by
    have : W.heap.size = r := by simpa [Value.ownBlock] using he
    omega)
set_option maxRecDepth 100000 in
set_option maxHeartbeats 8000000 in
theorem gb_main (w : World) : Calls Try.prog 7 #[] w fun e w' => e = .returned (.bool true) ∧ Below w.heap.size w w' := by
  have HB := Aside0.mk (Below.refl w.heap.size w)
  go_enter Try.func7, Try.ntmps7
  go_wp2_with (first | ((with_reducible refine gate_dst (N := 14) rfl ?_); (try (refine gate_guard (by rfl) ?_; dsimp only)); refine Kd.R_make (Kd.int .i64) _ 2 rfl (N := 14) rfl 22 _ _ rfl 65537 rfl rfl Try.underlying22 (.int .i64 0) 8 info2 rfl (by decide) (by omega) 0 (ok := fun _ => True) (okp := fun _ => True) rfl (fun _ hk => hk) trivial (by omega) (by omega) (Below.refl _ _) (Nat.le_refl _) ?_; intro v399 w2 ho3 hb hg_ hnew_; clear hg_ hnew_; simp only [Int.reduceToNat] at ho3; rw [← bndL_zero] at ho3; have n0_ := Aside0.mk (Kd.R_lower ho3 (below_size HB.out)); have n1_ := Aside0.mk (below_step HB.out hb); clear HB; have HO400 := n0_; have HB := n1_; clear n0_ n1_; clear hb ho3))
  obtain ⟨Ao, co, rfl⟩ := Kd.R_slice HO400.out
  go_loopw [2] (fun v2 w' => ∃ i : Nat, v2 = .int .i64 i ∧ i ≤ 65537 ∧ Aside0 (Kd.R (Kd.int .i64) 2 w' w.heap.size (fun _ => True) (.slice Ao (bndL 0).length co) (bndL i)) ∧ Aside0 (Below w.heap.size w w')) (fun v2 _ => 65537 - (intOf v2).toNat)
  case atStart => exact ⟨0, rfl, by omega, HO400, HB⟩
  case round =>
    clear HO400 HB
    obtain ⟨i, rfl, hi, HO, HB⟩ := hrel
    have hl65 := bndL_length hi
    obtain ⟨xs, hxs⟩ : ∃ xs, xs = bndL i := ⟨_, rfl⟩
    rw [bndL_length (by omega)] at HO ⊢
    rw [← hxs] at HO hl65
    by_cases ci : i < 65537
    · have q1 : decide ((i : Int) < 65537) = true := decide_eq_true (by omega)
      have q2 : decide (i < 65537) = true := decide_eq_true ci
      have HX := Aside0.mk hxs
      have HCI := Aside0.mk ci
      obtain ⟨Ao7, co7, eo7⟩ := Kd.R_slice HO.out
      have p6 : 0 ≤ (i : Int) := by omega
      obtain ⟨n, hn⟩ : ∃ n : Nat, n = 65537 := ⟨_, rfl⟩
      rw [← hn] at HO ⊢
      have q6 : (i : Int) < (n : Int) := by omega
      obtain ⟨go6, co6, eo6, gb6, gl6, cl6, HG6⟩ := Kd.R_form HO.out (by omega)
      rw [hl65] at eo6
      injection eo6 with ea6 _ ec6
      subst ea6 ec6
      have GB6 := Aside0.mk gb6
      clear eo7 gb6 gl6 cl6 HG6 hxs
      obtain ⟨hx6_0, hf6_0⟩ := Kd.R_celln 0 HO.out (i : Int) p6 q6
      have HP8 := Kd.R_putg HO.out (i : Int) ((i : Int) % 7 * 1000000007)
      rw [show ((i : Int)).toNat = i from rfl] at hx6_0 hf6_0 HP8
      have hwi : IntKind.i64.wrap ((i : Int) + 1) = (i : Int) + 1 := IntWalk.i64_in _ (by omega)
      have hset : xs.set i ((i : Int) % 7 * 1000000007) = bndL (i + 1) := by rw [HX.out]; exact bndL_set ci
      rw [hset] at HP8
      have HPA := Aside0.mk HP8
      have HBS := Aside0.mk (below_set HB.out GB6.out : Below w.heap.size w (wr.setCell ⟨go6, i, none⟩ (.int .i64 ((i : Int) % 7 * 1000000007))))
      have HN := Aside0.mk hn
      clear HP8 q6 hset hl65 hn
      go_wp2
      go_roundw
      case rel => exact ⟨i + 1, by go_num, by have := HCI.out; have := HN.out; omega, ⟨HPA.out.1⟩, HBS⟩
      case measure => have := HCI.out; have := HN.out; simp [intOf]; omega
    · have hie : i = 65537 := by omega
      have q1 : decide ((i : Int) < 65537) = false := decide_eq_false (by omega)
      have q2 : decide (i < 65537) = false := decide_eq_false ci
      obtain ⟨n, hn⟩ : ∃ n, n = xs.length := ⟨_, rfl⟩
      have hn65 : n = 65537 := hn.trans hl65
      have hxin : ∀ x ∈ xs, D13.inI x := by rw [hxs]; exact bndL_in i
      obtain ⟨k1, k2, k3⟩ := Kd.R_reads' HO.out
      rw [hl65] at k3
      have hcc : 65537 ≤ co := k2
      obtain ⟨i0, hi0, _, hsz, _⟩ := info_parts info2
      have HCX := Aside0.mk k3
      have ht := print_take_of (P := Try.prog) (Value.int .i64) 0 22 2 .i64 Try.underlying22 hi0 hsz Ao co xs 65536 (by omega) (by omega) (by omega)
      rw [hl65] at ht
      obtain ⟨htake, hTd, hT1⟩ := ht
      rw [show (65536 : Int).toNat = 65536 from rfl] at htake hTd hT1
      have htl : (xs.take 65536).length = 65536 := by rw [List.length_take]; omega
      obtain ⟨ys, hys⟩ : ∃ ys, ys = xs.take 65536 := ⟨_, rfl⟩
      rw [← hys] at htake hTd hT1 htl
      have hyin : ∀ x ∈ ys, D13.inI x := fun x h => hxin x (by rw [hys] at h; exact List.mem_of_mem_take h)
      have hCY : ∀ w', Below wr.heap.size wr w' → Kd.C (Kd.int .i64) w' Ao 65536 ys := fun w' h => by
        have := Kd.C_of_reads (h1 := fun _ => rfl) (enc := Value.int .i64) (d := 0) (hTd _ (Kd.reads_of_C (Kd.C_below HCX.out h)))
        rwa [htl] at this
      rw [htl] at htake
      have hread := (D13.read_eq (k := 4000) (by decide) (D13.listB_range ys) 65536)
      have hread2 := (D13.read_eq (k := 4000) (by decide) (D13.listB_range ys) 65537)
      have e1 : D13.readR (D13.listB ys) 65536 = (ys, 0) := by
        have := D13.read_back hyin (by omega)
        rwa [htl] at this
      have e2 : D13.readR (D13.listB ys) 65537 = ([], 2) := by unfold D13.readR; rw [if_pos (.inr (by omega))]
      rw [e1] at hread
      rw [e2] at hread2
      obtain ⟨B, hB⟩ : ∃ B, B = D13.listB ys := ⟨_, rfl⟩
      have h6 : 6 ≤ B.length := by
        have hv := D13.vb_length64 (n := 65536) (by omega)
        have e3 : D13.vb 65536 = [128, 128, 4] := by rw [D13.vb_big (by omega), D13.vb_big (by omega), D13.vb_small (by omega)]; rfl
        rw [hB]
        unfold D13.listB
        rw [htl, e3]
        simp
      have hb700 : B.length ≤ 700000 := by rw [hB]; exact D13.listB_short hyin (by omega)
      have HW1 := Aside0.mk (fun (W : World) (h : Kd.C (Kd.int .i64) W Ao 65536 ys) => delta_Write.calls 4000 Ao co ys B 0 W (by rw [htl]; exact h) (by omega) (by rw [hB]; exact D13.write_eq (by decide) hyin (by omega)))
      have HW2 := Aside0.mk (fun (W : World) (h : Kd.C (Kd.int .i64) W Ao 65537 xs) => delta_Write.calls 4000 Ao co xs [] 3 W (by rw [hl65]; exact h) (by omega) (D13.write_many (by omega)))
      rw [htl] at HW1
      rw [hl65] at HW2
      rw [← hB] at hread hread2
      have HR1 := Aside0.mk (fun (W : World) (A : Option Addr) (c : Nat) (h : Kd.C (Kd.int .u8) W A B.length B) (hc : B.length ≤ c) => delta_Read.calls 4000 A c B 65536 ys 0 W h hc hread)
      have HR2 := Aside0.mk (fun (W : World) (A : Option Addr) (c : Nat) (h : Kd.C (Kd.int .u8) W A B.length B) (hc : B.length ≤ c) => delta_Read.calls 4000 A c B 65537 [] 2 W h hc hread2)
      have HU := Aside0.mk (show ∀ x ∈ B, 0 ≤ x ∧ x ≤ 255 from (by rw [hB]; exact D13.listB_range ys))
      have HSM := Aside0.mk (D13.same (k := 70000) (l := ys) (by omega) (by omega))
      have HYL := Aside0.mk htl
      have HCY := Aside0.mk hCY
      have HCO := Aside0.mk hcc
      have H6 := Aside0.mk (And.intro h6 hb700)
      have HB0 := Aside0.mk HB.out
      clear hTd hT1 hn hn65 hxin hyin hCY hread hread2 e1 e2 hB h6 hb700 HO HB hxs hys hl65 k1 k2 k3 hie hi0 hsz hcc htl hi ci q2
      go_wp2_with fail
      refine (HW1.out wr (HCY.out wr (Below.refl _ _))).mono ?_
      rintro e W1 ⟨v1, rfl, hR1, hb1⟩
      obtain ⟨A1, c1, rfl, hc1, hC1⟩ := Kd.R_reads hR1
      have HB1 := Aside0.mk hb1
      have HC1 := Aside0.mk hC1
      have HC1c := Aside0.mk hc1
      clear hR1 hb1 hC1 hc1
      go_wp2_with fail
      refine (HW2.out W1 (Kd.C_below HCX.out HB1.out)).mono ?_
      rintro e W2 ⟨v2, rfl, hR2, hb2⟩
      obtain ⟨A2, c2, rfl, hc2, hC2⟩ := Kd.R_reads hR2
      have HB2 := Aside0.mk (below_step HB1.out hb2)
      have HC2 := Aside0.mk (Kd.C_below HC1.out hb2)
      rw [show ([] : List Int).length = 0 from rfl]
      clear hR2 hb2 hC2 hc2
      go_wp2_with fail
      refine (HR1.out W2 A1 c1 HC2.out HC1c.out).mono ?_
      rintro e W3 ⟨v3, rfl, hR3, hb3⟩
      obtain ⟨A3, c3, rfl, hc3, hC3⟩ := Kd.R_reads hR3
      rw [HYL.out] at hc3 hC3 ⊢
      have HB3 := Aside0.mk (below_step HB2.out hb3)
      have HC3 := Aside0.mk (Kd.C_below HC2.out hb3)
      have HM3 := Aside0.mk hC3
      have HM3c := Aside0.mk hc3
      clear hR3 hb3 hC3 hc3
      go_wp2_with fail
      refine (HR2.out W3 A1 c1 HC3.out HC1c.out).mono ?_
      rintro e W4 ⟨v4, rfl, hR4, hb4⟩
      obtain ⟨A4, c4, rfl, hc4, hC4⟩ := Kd.R_reads hR4
      have HB4 := Aside0.mk (below_step HB3.out hb4)
      have HC4 := Aside0.mk (Kd.C_below HC3.out hb4)
      have HM4 := Aside0.mk (Kd.C_below HM3.out hb4)
      rw [show ([] : List Int).length = 0 from rfl]
      clear hR4 hb4 hC4 hc4
      have hmin : min (B.length : Int) 6 = 6 := by have := H6.out; omega
      obtain ⟨i0, hi0, _, hsz, _⟩ := info_parts info5
      obtain ⟨D1, hcut1, hDd1, hE1⟩ := print_drop_of (P := Try.prog) (Value.int .u8) 0 25 5 .i64 Try.underlying25 hi0 hsz A1 c1 B 6 (by omega) (by have := H6.out; omega) HC1c.out
      rw [show (6 : Int).toNat = 6 from rfl] at hcut1 hDd1 hE1
      obtain ⟨P1, hP1⟩ : ∃ P1, P1 = B.drop 6 := ⟨_, rfl⟩
      have hPu : ∀ x ∈ P1, 0 ≤ x ∧ x ≤ 255 := fun x h => HU.out x (by rw [hP1] at h; exact List.mem_of_mem_drop h)
      have hPl : P1.length ≤ 700000 := by rw [hP1, List.length_drop]; have := H6.out; omega
      rw [← hP1] at hcut1 hDd1 hE1
      obtain ⟨E1, hE1'⟩ : ∃ E1, E1 = c1 - 6 := ⟨_, rfl⟩
      rw [← hE1'] at hcut1 hE1
      have HD1 := Aside0.mk (show Kd.C (Kd.int .u8) (W4.alloc (.cells #[.int .u8 128, .int .u8 1, .int .u8 4, .int .u8 129, .int .u8 128, .int .u8 4] 5)) D1 P1.length P1 from Kd.C_of_reads (h1 := fun _ => rfl) (hDd1 _ (Kd.reads_of_C (Kd.C_below HC4.out (below_alloc (Below.refl _ _) _)))))
      have HW04 := Aside0.mk (HB0.out.trans (HB4.out.mono HB0.out.size))
      have HL6 := Aside0.mk (lit6_own w W4 HW04.out)
      have HL6b := Aside0.mk (below_alloc HW04.out (.cells #[.int .u8 128, .int .u8 1, .int .u8 4, .int .u8 129, .int .u8 128, .int .u8 4] 5))
      have HL6s := Aside0.mk (show w.heap.size ≤ (W4.alloc (.cells #[.int .u8 128, .int .u8 1, .int .u8 4, .int .u8 129, .int .u8 128, .int .u8 4] 5)).heap.size from HL6b.out.size)
      have HPL := Aside0.mk hPl
      have HPU := Aside0.mk hPu
      clear hDd1 hP1 hPu hPl hE1 hE1' hi0 hsz
      go_wp2_with (first | ((with_reducible refine gate_builtin (b := .append) (xs := #[.tmp 49, .tmp 54]) rfl ?_); at_builtin; refine print_append_row (w0 := w) w.heap.size rfl (.tmp 49) (.tmp 54) 25 5 .u8 1 rfl Try.underlying25 dg_info (by decide) _ [128, 1, 4, 129, 128, 4] P1 D1 P1.length E1 rfl rfl HL6.out (Kd.reads_of_C HD1.out) HL6b.out HL6s.out (by have := HPL.out; simp; omega) ?_; intro v5 w5 ho5 hb5 hg5 hat5; have HO5 := Aside0.mk ho5; have HB5 := Aside0.mk hb5; have HG5 := Aside0.mk hg5; clear ho5 hb5 hg5 hat5))
      obtain ⟨A5, c5, rfl⟩ := own_formD HO5.out
      obtain ⟨k1, k2, k3⟩ := Kd.R_reads' (Kd.R_of_own (enc := Value.int .u8) (h1 := fun _ => rfl) (ok := fun _ => True) HO5.out (fun _ _ => trivial))
      have hbeg := D13.begin_eq (k := 4000) (by decide) (b := [128, 1, 4, 129, 128, 4] ++ P1) (fun x hx => by
        rcases List.mem_append.1 hx with h | h
        · simp at h; omega
        · exact HPU.out x h)
      rw [begin_many] at hbeg
      have hgr : Below W4.heap.size W4 w5 := gb_grow HG5.out HL6.out
      have HM5 := Aside0.mk (Kd.C_below HM4.out hgr)
      have HCY5 := Aside0.mk (HCY.out w5 (HB4.out.trans (hgr.mono HB4.out.size)))
      refine (delta_Begin.calls 4000 A5 c5 _ [] 0 8 w5 k3 k2 hbeg).mono ?_
      clear k1 k2 k3 hbeg hgr
      rintro e W6 ⟨v6, rfl, hR6, hb6⟩
      obtain ⟨A6, c6, rfl, hc6, hC6⟩ := Kd.R_reads hR6
      have HB6 := Aside0.mk (below_then HB5.out HB5.out.size hb6)
      have HM6 := Aside0.mk (Kd.C_below HM5.out hb6)
      have HCY6 := Aside0.mk (Kd.C_below HCY5.out hb6)
      rw [show ([] : List Int).length = 0 from rfl]
      clear hR6 hb6 hC6 hc6
      have NS := Aside0.mk num_same
      go_wp2_with fail
      refine (NS.out _ _).mono ?_
      rintro e W7 ⟨rfl, ⟨nd7, hW7⟩⟩
      go_wp2_with fail
      refine (NS.out _ _).mono ?_
      rintro e W8 ⟨rfl, ⟨nd8, hW8⟩⟩
      have HB8 := Aside0.mk (show Below w.heap.size w W8 from (by rw [hW8]; exact pw_below_drewN (pw_below_drewN HB6.out _) _))
      have HM8 := Aside0.mk (show Kd.C (Kd.int .i64) W8 A3 65536 ys from (by rw [hW8]; exact Kd.C_drewN (Kd.C_drewN HM6.out _) _))
      have HCY8 := Aside0.mk (show Kd.C (Kd.int .i64) W8 Ao 65536 ys from (by rw [hW8]; exact Kd.C_drewN (Kd.C_drewN HCY6.out _) _))
      clear hW7 hW8
      have hsame := marquetrylaw13_same.calls 70000 A3 c3 ys Ao co ys true W8 (by rw [HYL.out]; exact HM8.out) (by rw [HYL.out]; exact HM3c.out) (by rw [HYL.out]; exact HCY8.out) (by rw [HYL.out]; have := HCO.out; omega) HSM.out
      rw [HYL.out] at hsame
      have HSS := Aside0.mk hsame
      clear hsame
      go_wp2_with fail
      refine HSS.out.mono ?_
      rintro e W9 ⟨rfl, ⟨nd9, hW9⟩⟩
      have HB9 := Aside0.mk (show Below w.heap.size w W9 from (by rw [hW9]; exact pw_below_drewN HB8.out _))
      clear hW9
      go_wp2_with fail
      refine (NS.out _ _).mono ?_
      rintro e W10 ⟨rfl, ⟨nd10, hW10⟩⟩
      go_wp2_with fail
      refine (NS.out _ _).mono ?_
      rintro e W11 ⟨rfl, ⟨nd11, hW11⟩⟩
      go_wp2_with fail
      refine (NS.out _ _).mono ?_
      rintro e W12 ⟨rfl, ⟨nd12, hW12⟩⟩
      have HB12 := Aside0.mk (show Below w.heap.size w W12 from (by rw [hW12]; repeat (first | exact HB9.out | apply pw_below_drewN)))
      clear hW10 hW11 hW12
      go_wp2_with fail
      refine (works_true _).mono ?_
      rintro e W13 ⟨rfl, hb13⟩
      have HB13 := Aside0.mk (below_then HB12.out HB12.out.size hb13)
      clear hb13
      go_wp2
      go_ret
      exact ⟨rfl, HB13.out⟩
end Go.Proofs.Ytbncfhmfohpfbaa.X
end

section
namespace Go.Proofs.Ytbncfhmfohpfbaa.X
open Go.RowKit Go.Proofs.YtbncfhmfohpfbaaW.PrintWords Go.Proofs.YtbncfhmfohpfbaaW.PrintLast Go.Proofs.YtbncfhmfohpfbaaW.PrintMore
attribute [local go_sem] max2_int min2_int max_two min_two max_three min_three max_four min_four
set_option linter.unusedVariables false
set_option linter.unusedSimpArgs false
def marquetrylaw13_DeltaBounds.f : Option Bool := some true
theorem marquetrylaw13_DeltaBounds.calls (r : Bool) (w : World) (h : marquetrylaw13_DeltaBounds.f = some r) :
    Calls Try.prog 7 #[] w fun e w' => e = .returned (.bool r) ∧ Below w.heap.size w w' := by
  obtain rfl := Option.some.inj h
  exact gb_main w
def marquetrylaw13_DeltaBounds.Pure : Prop := marquetrylaw13_DeltaBounds.f  = some true
end Go.Proofs.Ytbncfhmfohpfbaa.X
end

section
namespace Go.Proofs.Ytbncfhmfohpfbaa.Rd
open Go.ChangeShapes Go.WideShapes Go.Deep Go.RowKit Go.Joins Go.Proofs.YtbncfhmfohpfbaaW.PrintWords
structure Opens (P : Program) (t : TypeId) {α : Type} (d : Kd α) (Wf : α → Prop) : Prop where
  opens : ∀ {H : Type} {enc : TypeId × Value → H} {w : World} {base : Nat} {spare : Nat → Bool} {held : Bool} {n : Nat} {cs : List Value} {y : DataW H × List MemPlace},
    DataW.trod enc P w base spare held n t cs = some y → (∀ m ∈ y.1.weights P t, m ≤ reachBytes) → ∃ x, d.K w x cs ∧ Wf x
theorem one_of {P : Program} {fs : Array Field} (hone : oneCellFields P fs = true) {j : Nat} {f : Field} (h : fs.toList[j]? = some f) : f.offset = j ∧ P.cellsOf f.type = 1 := hone_of hone j f (by simpa using h)
end Go.Proofs.Ytbncfhmfohpfbaa.Rd
end
