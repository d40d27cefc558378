/- Layer 1, unpacked numbers: the program and the reference both read the numbers off the bits. -/
import Derived.Test.YtgdlbfkblopoeaaX13
import Derived.Test.YtgdlbfkblopoeaaX14
import Derived.Test.YtgdlbfkblopoeaaX3
import Derived.Test.YtgdlbfkblopoeaaL1p
namespace Go.Proofs.Ytgdlbfkblopoeaa.L1
set_option linter.unusedVariables false
set_option linter.unusedSimpArgs false
open Go.RowKit Go.Proofs.Ytgdlbfkblopoeaa.X Go.Proofs.YtgdlbfkblopoeaaW.PrintWords Go.Proofs.YtgdlbfkblopoeaaW.PrintLast Go.Proofs.YtgdlbfkblopoeaaW.PrintMore Go.Proofs.Ytgdlbfkblopoeaa.Bx Go.Proofs.Ytgdlbfkblopoeaa.Nx Go.Proofs.Ytgdlbfkblopoeaa.Px

/-- Bit i of bytes. -/
def bt (l : List Int) (i : Nat) : Int := l.getD (i / 8) 0 / 2 ^ (i % 8) % 2
theorem bt_range (l : List Int) (i : Nat) : bt l i = 0 ∨ bt l i = 1 := by unfold bt; omega
/-- The number of d bits from a place on, the lowest first. -/
def valF (g : Nat → Int) : Nat → Nat → Int
  | _, 0 => 0
  | P, d + 1 => g P + 2 * valF g (P + 1) d
theorem valF_snoc (g : Nat → Int) : ∀ (d P : Nat), valF g P (d + 1) = valF g P d + g (P + d) * 2 ^ d
  | 0, P => by simp [valF]
  | d + 1, P => by
    rw [valF, valF_snoc g d (P + 1), valF, Int.pow_succ, show P + 1 + d = P + (d + 1) by omega, Int.mul_add, Int.add_assoc, ← Int.mul_assoc, Int.mul_comm (2 ^ d) 2, ← Int.mul_assoc, Int.mul_comm 2 (g (P + (d + 1)))]
theorem valF_range {g : Nat → Int} (hg : ∀ i, g i = 0 ∨ g i = 1) : ∀ (d P : Nat), 0 ≤ valF g P d ∧ valF g P d < 2 ^ d
  | 0, P => by simp [valF]
  | d + 1, P => by
    have := valF_range hg d (P + 1)
    have h2 := hg P
    rw [valF, Int.pow_succ]
    omega
theorem getD_u8 {l : List Int} (hl : ∀ x ∈ l, 0 ≤ x ∧ x ≤ 255) (j : Nat) : 0 ≤ l.getD j 0 ∧ l.getD j 0 ≤ 255 := by
  rw [List.getD_eq_getElem?_getD]
  by_cases h : j < l.length
  · rw [List.getElem?_eq_getElem h]; exact hl _ (List.getElem_mem h)
  · rw [List.getElem?_eq_none (by omega)]; simp
theorem shr_range {x : Int} {t : Nat} (h : 0 ≤ x ∧ x ≤ 255) : 0 ≤ x / 2 ^ t ∧ x / 2 ^ t ≤ 255 := by
  have hp : (0 : Int) < 2 ^ t := Int.pow_pos (by decide)
  have := Int.ediv_le_self (2 ^ t) h.1
  exact ⟨Int.ediv_nonneg h.1 (Int.le_of_lt hp), by omega⟩
theorem and_one_u8 (x : Int) (h0 : 0 ≤ x) (h1 : x ≤ 255) : bits .and .u8 x 1 = x % 2 := by
  obtain ⟨a, rfl⟩ := Int.eq_ofNat_of_zero_le h0
  have e := (bits_nat .u8 8 (by decide) wraps_u8 a 1 (by omega) (by decide)).1
  have e2 : ((1 : Nat) : Int) = 1 := rfl
  rw [e2] at e
  rw [e, Nat.and_one_is_mod]; omega
theorem bitv_eq {x : Int} {t : Nat} (h : 0 ≤ x ∧ x ≤ 255) : bitv x t = x / 2 ^ t % 2 := by
  have := shr_range (t := t) h
  unfold bitv
  rw [and_one_u8 _ this.1 this.2]
  exact w64 (by omega) (by omega)
theorem allB_eq {l : List Int} (hl : ∀ x ∈ l, 0 ≤ x ∧ x ≤ 255) (m : Nat) : allB l m = (List.range m).map (bt l) := by
  unfold allB
  refine List.map_congr_left fun j _ => ?_
  rw [bitv_eq (getD_u8 hl _)]; rfl

/-! ### the program -/
theorem or_bit {d : Nat} {x b : Int} (hx0 : 0 ≤ x) (hx : x < 2 ^ d) (hd : d < 64) (hb : b = 0 ∨ b = 1) : bits .or .u64 x (IntKind.u64.wrap (IntKind.u64.wrap b * 2 ^ d)) = x + b * 2 ^ d := by
  have hp : (0 : Int) < 2 ^ d := Int.pow_pos (by decide)
  have hp2 : (2 : Int) ^ d ≤ 2 ^ 63 := by
    have := Nat.pow_le_pow_right (n := 2) (by decide) (show d ≤ 63 by omega)
    have e : ∀ n : Nat, ((2 ^ n : Nat) : Int) = (2 : Int) ^ n := fun n => by simp
    rw [← e, ← e]; exact Int.ofNat_le.2 this
  have e63 : (2 : Int) ^ 63 = 9223372036854775808 := by decide
  have hw : IntKind.u64.wrap b = b := by rw [u64w]; omega
  have hv : IntKind.u64.wrap (b * 2 ^ d) = b * 2 ^ d := by rw [u64w]; rcases hb with rfl | rfl <;> omega
  rw [hw, hv]
  exact or_low_high d x (b * 2 ^ d) hx0 hx (by rcases hb with rfl | rfl <;> omega) (Int.mul_emod_left _ _) (by rcases hb with rfl | rfl <;> omega) (by omega)
/-- The numbers when p bits have come. -/
def outF (g : Nat → Int) (W count p : Nat) : List Int := (List.range count).map fun i => valF g (i * W) (min W (p - i * W))
theorem outF_length (g : Nat → Int) (W count p : Nat) : (outF g W count p).length = count := by simp [outF]
theorem outF_get (g : Nat → Int) (W count p i : Nat) (h : i < count) : rd (outF g W count p) (i : Int) = valF g (i * W) (min W (p - i * W)) := by
  unfold rd outF
  rw [List.getD_eq_getElem?_getD, List.getElem?_map, show ((i : Int)).toNat = i from rfl, List.getElem?_range h]; rfl
theorem outF_step {g : Nat → Int} (hg : ∀ i, g i = 0 ∨ g i = 1) {W count k t : Nat} (hk : k < count) (ht : t < W) (hW : W ≤ 64) :
    (outF g W count (k * W + t)).set k (bits .or .u64 (rd (outF g W count (k * W + t)) (k : Int)) (IntKind.u64.wrap (IntKind.u64.wrap (g (k * W + t)) * 2 ^ t))) = outF g W count (k * W + t + 1) := by
  rw [outF_get _ _ _ _ _ hk, show min W (k * W + t - k * W) = t by omega, or_bit (valF_range hg _ _).1 (valF_range hg _ _).2 (by omega) (hg _), ← valF_snoc]
  apply List.ext_getElem
  · simp [outF]
  · intro i h1 h2
    rw [List.getElem_set]
    by_cases e : k = i
    · subst e
      rw [if_pos rfl]
      simp only [outF, List.getElem_map, List.getElem_range]
      rw [show min W (k * W + t + 1 - k * W) = t + 1 by omega]
    · rw [if_neg e]
      simp only [outF, List.getElem_map, List.getElem_range]
      congr 1
      rcases Nat.lt_or_ge i k with hi | hi
      · have : (i + 1) * W ≤ k * W := Nat.mul_le_mul_right _ (by omega)
        rw [Nat.add_mul, Nat.one_mul] at this
        omega
      · have : (k + 1) * W ≤ i * W := Nat.mul_le_mul_right _ (by omega)
        rw [Nat.add_mul, Nat.one_mul] at this
        omega
theorem urun_in (g : Nat → Int) (hg : ∀ i, g i = 0 ∨ g i = 1) (W count : Nat) (hW : W ≤ 64) : ∀ (p : Nat), p ≤ count * W → ∃ k t, urun (W : Int) count ((List.range p).map g) = some (outF g W count p, k, t) ∧ p = k * W + t ∧ (0 < W → t < W) ∧ k ≤ count
  | 0, h => by
    refine ⟨0, 0, ?_, by omega, fun h => h, Nat.zero_le _⟩
    have : outF g W count 0 = List.replicate count 0 := by
      apply List.ext_getElem
      · simp [outF]
      · intro i h1 h2
        simp [outF, valF]
    rw [this]; rfl
  | p + 1, h => by
    obtain ⟨k, t, h1, h2, h3, h4⟩ := urun_in g hg W count hW p (by omega)
    have hW0 : 0 < W := by
      rcases Nat.eq_zero_or_pos W with e | e
      · subst e; omega
      · exact e
    have ht := h3 hW0
    have hk : k < count := by
      rcases Nat.lt_or_ge k count with e | e
      · exact e
      · have : count * W ≤ k * W := Nat.mul_le_mul_right _ e
        omega
    rw [List.range_succ, List.map_append, List.map_cons, List.map_nil, urun_snoc, h1, Option.bind_some]
    unfold ust
    rw [if_pos ⟨by omega, hk⟩]
    simp only
    rw [h2, outF_step hg hk ht hW]
    by_cases e : t + 1 = W
    · rw [if_pos (by omega)]
      exact ⟨k + 1, 0, rfl, by rw [Nat.add_mul]; omega, fun _ => hW0, hk⟩
    · rw [if_neg (by omega)]
      exact ⟨k, t + 1, rfl, by omega, fun _ => by omega, h4⟩
theorem urun_out (g : Nat → Int) (hg : ∀ i, g i = 0 ∨ g i = 1) (W count : Nat) (hW : W ≤ 64) (q : Nat) :
    (match urun (W : Int) count ((List.range (count * W + q)).map g) with | some r => (r.1, (0 : Int)) | none => ([], 8)) = if ∀ j, j < q → g (count * W + j) = 0 then (outF g W count (count * W), 0) else ([], 8) := by
  obtain ⟨k, t, h1, h2, h3, h4⟩ := urun_in g hg W count hW (count * W) (Nat.le_refl _)
  have hno : ¬ (0 < (W : Int) ∧ k < count) := by
    rintro ⟨a, b⟩
    have ht := h3 (by omega)
    have : (k + 1) * W ≤ count * W := Nat.mul_le_mul_right _ (by omega)
    rw [Nat.add_mul] at this
    omega
  have key : ∀ q, urun (W : Int) count ((List.range (count * W + q)).map g) = if ∀ j, j < q → g (count * W + j) = 0 then some (outF g W count (count * W), k, t) else none := by
    intro q
    induction q with
    | zero => rw [Nat.add_zero, h1, if_pos (fun j hj => absurd hj (by omega))]
    | succ q ih =>
      rw [← Nat.add_assoc, List.range_succ, List.map_append, List.map_cons, List.map_nil, urun_snoc, ih]
      by_cases c : ∀ j, j < q → g (count * W + j) = 0
      · rw [if_pos c, Option.bind_some]
        unfold ust
        rw [if_neg hno]
        by_cases d : g (count * W + q) = 0
        · rw [if_pos d, if_pos (fun j hj => by rcases Nat.lt_or_ge j q with e | e; exact c j e; rw [show j = q by omega]; exact d)]
        · rw [if_neg d, if_neg (fun h => d (h q (by omega)))]
      · rw [if_neg c, if_neg (fun h => c (fun j hj => h j (by omega)))]; rfl
  rw [key]
  by_cases c : ∀ j, j < q → g (count * W + j) = 0
  · rw [if_pos c, if_pos c]
  · rw [if_neg c, if_neg c]

def UnpackR (l : List Int) (w n : Int) : List Int × Int :=
  if (SizeR w n).2 = 0 then (if (l.length : Int) < (SizeR w n).1 then ([], 6) else if (SizeR w n).1 < (l.length : Int) then ([], 7) else
    if ∀ j, j < 8 * l.length - n.toNat * w.toNat → bt l (n.toNat * w.toNat + j) = 0 then (outF (bt l) w.toNat n.toNat (n.toNat * w.toNat), 0) else ([], 8)) else ([], (SizeR w n).2)
theorem unpack {k : Nat} {l : List Int} {w n : Int} (hk : 1 ≤ k) (hl : ∀ x ∈ l, 0 ≤ x ∧ x ≤ 255) (hlen : l.length ≤ 1048576) : bits_Unpack.f k l w n = some (UnpackR l w n) := by
  unfold bits_Unpack.f UnpackR
  rw [size hk, Option.bind_some]
  by_cases c : (SizeR w n).2 = 0
  · obtain ⟨h1, h2, h3, h4, h5, h6⟩ := SizeR_ok c
    rw [if_pos c, if_pos c]
    by_cases d : (l.length : Int) < (SizeR w n).1
    · rw [if_pos d, if_pos d]
    · rw [if_neg d, if_neg d]
      by_cases e : (SizeR w n).1 < (l.length : Int)
      · rw [if_pos e, if_pos e]
      · rw [if_neg e, if_neg e, if_pos ⟨h1, h2, h3, h4, hlen⟩]
        obtain ⟨W, rfl⟩ := Int.eq_ofNat_of_zero_le h1
        obtain ⟨m, rfl⟩ := Int.eq_ofNat_of_zero_le h3
        have hm : ((m * W : Nat) : Int) = (m : Int) * (W : Int) := Int.natCast_mul _ _
        rw [show ((W : Int)).toNat = W from rfl, show ((m : Int)).toNat = m from rfl, allB_eq hl]
        have := urun_out (bt l) (bt_range l) W m (by omega) (8 * l.length - m * W)
        rw [show m * W + (8 * l.length - m * W) = 8 * l.length by omega] at this
        exact congrArg some this
  · rw [if_neg c, if_neg c]

/-! ### the reference -/
theorem ref_bit_l (i : Nat) (hi : i ≤ 1000000000) : ∀ (d k c : Nat) (y x : Int), c + d = i % 8 → d < k → 0 ≤ y → y ≤ 255 → x = y / 2 ^ c → marquetryref01_Bit.l0 k (i : Int) x (c : Int) = some (y / 2 ^ (i % 8) % 2)
  | 0, k, c, y, x, hc, hk, h0, h1, hx => by
    obtain ⟨k, rfl⟩ : ∃ j, k = j + 1 := ⟨k - 1, by omega⟩
    rw [marquetryref01_Bit.l0, tmod8, if_neg (by omega)]
    have hr := shr_range (x := y) (t := c) ⟨h0, h1⟩
    rw [← hx] at hr
    rw [Int.tmod_eq_emod_of_nonneg hr.1, u64w, hx, show i % 8 = c by omega]
    congr 1; omega
  | d + 1, k, c, y, x, hc, hk, h0, h1, hx => by
    obtain ⟨k, rfl⟩ : ∃ j, k = j + 1 := ⟨k - 1, by omega⟩
    have hr := shr_range (x := y) (t := c) ⟨h0, h1⟩
    rw [← hx] at hr
    rw [marquetryref01_Bit.l0, tmod8, if_pos (by omega), Int.tdiv_eq_ediv_of_nonneg hr.1, show x / 2 % 256 = x / 2 by omega, w64s (by omega)]
    exact ref_bit_l i hi d k (c + 1) y (x / 2) (by omega) (by omega) h0 h1 (div_pow hx)
theorem ref_bit {k i : Nat} {l : List Int} (hk : 9 ≤ k) (hi : i ≤ 1000000000) (hl : ∀ x ∈ l, 0 ≤ x ∧ x ≤ 255) (h : i < 8 * l.length) : marquetryref01_Bit.f k l (i : Int) = some (bt l i) := by
  unfold marquetryref01_Bit.f
  rw [w64d hi, if_pos (by omega), if_pos (by omega)]
  have := getD_u8 hl (i / 8)
  exact ref_bit_l i hi (i % 8) k 0 (l.getD (i / 8) 0) _ (by omega) (by omega) this.1 this.2 (by rw [Int.pow_zero, Int.ediv_one]; rfl)
theorem un_l2 {l : List Int} (hl : ∀ x ∈ l, 0 ≤ x ∧ x ≤ 255) (W m i : Nat) (hW : W ≤ 64) (hiW : i * W + W ≤ 8 * l.length) (hlen : 8 * l.length ≤ 1000000000) (out : List Int) : ∀ (d k : Nat), d ≤ W → 10 ≤ k →
    marquetryref01_Unpack.l2 (k + d + 1) l (W : Int) (m : Int) out (i : Int) (valF (bt l) (i * W + d) (W - d)) ((d : Int) - 1) = if out.length < 17592186044416 then marquetryref01_Unpack.l1 k l (W : Int) (m : Int) (out ++ [valF (bt l) (i * W) W]) (wrap64 ((i : Int) + 1)) else none
  | 0, k, hd, hk => by
    rw [show k + 0 + 1 = k + 1 by omega, marquetryref01_Unpack.l2, if_neg (by omega)]
    simp
  | d + 1, k, hd, hk => by
    have hm : (i : Int) * (W : Int) = ((i * W : Nat) : Int) := (Int.natCast_mul _ _).symm
    rw [show k + (d + 1) + 1 = (k + d + 1) + 1 by omega, marquetryref01_Unpack.l2, if_pos (by omega), hm, w64n (show i * W ≤ 1000000000 by omega), show (((i * W : Nat) : Int) + (((d + 1 : Nat) : Int) - 1)) = ((i * W + d : Nat) : Int) by omega, w64n (show i * W + d ≤ 1000000000 by omega), ref_bit (by omega) (by omega) hl (by omega), Option.bind_some]
    have hv := valF_range (bt_range l) (W - (d + 1)) (i * W + (d + 1))
    have hb := bt_range l (i * W + d)
    have hp : (2 : Int) ^ (W - (d + 1)) ≤ 2 ^ 63 := by
      have := Nat.pow_le_pow_right (n := 2) (by decide) (show W - (d + 1) ≤ 63 by omega)
      have e : ∀ n : Nat, ((2 ^ n : Nat) : Int) = (2 : Int) ^ n := fun n => by simp
      rw [← e, ← e]; exact Int.ofNat_le.2 this
    have e63 : (2 : Int) ^ 63 = 9223372036854775808 := by decide
    have hst : IntKind.u64.wrap (IntKind.u64.wrap (2 * valF (bt l) (i * W + (d + 1)) (W - (d + 1))) + bt l (i * W + d)) = valF (bt l) (i * W + d) (W - d) := by
      rw [show W - d = (W - (d + 1)) + 1 by omega, valF, u64w, u64w, show i * W + d + 1 = i * W + (d + 1) by omega]
      omega
    have hw : wrap64 (((d + 1 : Nat) : Int) - 1 - 1) = (d : Int) - 1 := by rw [w64 (by omega) (by omega)]; omega
    rw [hst, hw]
    exact un_l2 hl W m i hW hiW hlen out d k (by omega) hk
theorem un_l1 {l : List Int} (hl : ∀ x ∈ l, 0 ≤ x ∧ x ≤ 255) (W m : Nat) (hW : W ≤ 64) (hmW : m * W ≤ 8 * l.length) (hlen : 8 * l.length ≤ 1000000000) (hm : m ≤ 1048576) : ∀ (d i k : Nat) (out : List Int), i + d = m → out = (List.range i).map (fun i => valF (bt l) (i * W) W) → 12 + d * (W + 2) ≤ k →
    marquetryref01_Unpack.l1 k l (W : Int) (m : Int) out (i : Int) = some ((List.range m).map (fun i => valF (bt l) (i * W) W), 0)
  | 0, i, k, out, hi, ho, hk => by
    obtain ⟨k, rfl⟩ : ∃ j, k = j + 1 := ⟨k - 1, by omega⟩
    rw [marquetryref01_Unpack.l1, if_neg (by omega), ho, show i = m by omega]
  | d + 1, i, k, out, hi, ho, hk => by
    rw [Nat.add_mul] at hk
    obtain ⟨k, rfl⟩ : ∃ j, k = (j + W + 1) + 1 := ⟨k - W - 2, by omega⟩
    have hlo : out.length = i := by rw [ho]; simp
    have hiW : i * W + W ≤ 8 * l.length := by
      have : (i + 1) * W ≤ m * W := Nat.mul_le_mul_right _ (by omega)
      rw [Nat.add_mul] at this; omega
    have h2 := un_l2 hl W m i hW hiW hlen out W k (Nat.le_refl _) (by omega)
    rw [Nat.sub_self] at h2
    rw [marquetryref01_Unpack.l1, if_pos (by omega), w64 (by omega) (by omega)]
    have e0 : valF (bt l) (i * W + W) 0 = 0 := rfl
    rw [e0] at h2
    rw [h2, if_pos (by omega), w64s (by omega)]
    exact un_l1 hl W m hW hmW hlen hm d (i + 1) k _ (by omega) (by rw [ho, List.range_succ, List.map_append]; rfl) (by omega)
theorem un_l0 {l : List Int} (hl : ∀ x ∈ l, 0 ≤ x ∧ x ≤ 255) (W m : Nat) (hW : W ≤ 64) (hmW : m * W ≤ 8 * l.length) (hlen : l.length ≤ 100000000) (hm : m ≤ 1048576) : ∀ (q p k : Nat), p + q = 8 * l.length → 14 + m * (W + 2) + q ≤ k →
    marquetryref01_Unpack.l0 k l (W : Int) (m : Int) (l.length : Int) (p : Int) = some (if ∀ j, j < q → bt l (p + j) = 0 then ((List.range m).map (fun i => valF (bt l) (i * W) W), 0) else ([], 8))
  | 0, p, k, hp, hk => by
    obtain ⟨k, rfl⟩ : ∃ j, k = j + 1 := ⟨k - 1, by omega⟩
    rw [marquetryref01_Unpack.l0, w64 (by omega) (by omega), if_neg (by omega), if_pos (fun j hj => absurd hj (by omega))]
    exact un_l1 hl W m hW hmW (by omega) hm m 0 k [] (by omega) rfl (by omega)
  | q + 1, p, k, hp, hk => by
    obtain ⟨k, rfl⟩ : ∃ j, k = j + 1 := ⟨k - 1, by omega⟩
    rw [marquetryref01_Unpack.l0, w64 (by omega) (by omega), if_pos (by omega), ref_bit (by omega) (by omega) hl (by omega), Option.bind_some]
    by_cases c : bt l p = 0
    · rw [if_pos c, w64s (by omega), un_l0 hl W m hW hmW hlen hm q (p + 1) k (by omega) (by omega)]
      congr 1
      by_cases d : ∀ j, j < q → bt l (p + 1 + j) = 0
      · rw [if_pos d, if_pos]
        intro j hj
        rcases Nat.eq_zero_or_pos j with e | e
        · subst e; exact c
        · have := d (j - 1) (by omega)
          rwa [show p + 1 + (j - 1) = p + j by omega] at this
      · rw [if_neg d, if_neg]
        intro h
        exact d fun j hj => by have := h (j + 1) (by omega); rwa [show p + (j + 1) = p + 1 + j by omega] at this
    · rw [if_neg c, if_neg (fun h => c (h 0 (by omega)))]
theorem ref_unpack {k : Nat} {l : List Int} {w n : Int} (hl : ∀ x ∈ l, 0 ≤ x ∧ x ≤ 255) (hlen : l.length ≤ 100000) (hk : 100000000 ≤ k) : marquetryref01_Unpack.f k l w n = some (UnpackR l w n) := by
  unfold marquetryref01_Unpack.f UnpackR
  rw [ref_size (by omega), Option.bind_some]
  by_cases c : (SizeR w n).2 = 0
  · obtain ⟨h1, h2, h3, h4, h5, h6⟩ := SizeR_ok c
    rw [if_pos c, if_pos c]
    by_cases d : (l.length : Int) < (SizeR w n).1
    · rw [if_pos d, if_pos d]
    · rw [if_neg d, if_neg d]
      by_cases e : (SizeR w n).1 < (l.length : Int)
      · rw [if_pos e, if_pos (show (l.length : Int) > (SizeR w n).1 from e)]
      · rw [if_neg e, if_neg (show ¬ (l.length : Int) > (SizeR w n).1 from e)]
        obtain ⟨W, rfl⟩ := Int.eq_ofNat_of_zero_le h1
        obtain ⟨m, rfl⟩ := Int.eq_ofNat_of_zero_le h3
        have hm : ((m * W : Nat) : Int) = (m : Int) * (W : Int) := Int.natCast_mul _ _
        have hmW : m * W ≤ m * 64 := Nat.mul_le_mul_left _ (by omega)
        rw [show ((W : Int)).toNat = W from rfl, show ((m : Int)).toNat = m from rfl, show (SizeR (W : Int) (m : Int)).1 = (l.length : Int) by omega, ← hm, w64n (by omega)]
        have hmm : m * (W + 2) ≤ m * 66 := Nat.mul_le_mul_left _ (by omega)
        rw [un_l0 hl W m (by omega) (by omega) (by omega) (by omega) (8 * l.length - m * W) (m * W) k (by omega) (by omega)]
        have eo : (List.range m).map (fun i => valF (bt l) (i * W) W) = outF (bt l) W m (m * W) := by
          unfold outF
          refine List.map_congr_left fun i hi => ?_
          have hi := List.mem_range.1 hi
          have : (i + 1) * W ≤ m * W := Nat.mul_le_mul_right _ (by omega)
          rw [Nat.add_mul] at this
          rw [show min W (m * W - i * W) = W by omega]
        rw [eo]
  · rw [if_neg c, if_neg c]
end Go.Proofs.Ytgdlbfkblopoeaa.L1
