/- PlainWrite: texts of this seat in one (wip/merge.py): L10w, Rd. -/
import Derived.Test.YtcklkngljapecaaGPlainWrite1
import Derived.Test.YtcklkngljapecaaGPlainWrite2
import Derived.Test.YtcklkngljapecaaGPlainWrite0
import Derived.Test.YtcklkngljapecaaGPlainWrite4
import Derived.Deep.Slices
import Derived.Lib.SmallJoins
import Derived.SizedLaws
section
namespace Go.Proofs.Ytcklkngljapecaa.L10
set_option linter.unusedVariables false
set_option linter.unusedSimpArgs false
open Go.RowKit Go.Proofs.Ytcklkngljapecaa.X Go.Proofs.YtcklkngljapecaaW.PrintWords Go.Proofs.YtcklkngljapecaaW.PrintLast Go.Proofs.YtcklkngljapecaaW.PrintMore Go.Proofs.Ytcklkngljapecaa.Bx Go.Proofs.Ytcklkngljapecaa.Nx Go.Proofs.Ytcklkngljapecaa.Px Go.Proofs.Ytcklkngljapecaa.L1
def sumT : List D → Int
  | [] => 0
  | x :: l => (x.f2.size : Int) + sumT l
theorem sumT_nonneg : ∀ l, 0 ≤ sumT l
  | [] => by simp [sumT]
  | x :: l => by have := sumT_nonneg l; simp only [sumT]; omega
theorem sumT_mem : ∀ {l : List D} {x : D}, x ∈ l → (x.f2.size : Int) ≤ sumT l
  | y :: l, x, h => by
    simp only [sumT]
    have h0 := sumT_nonneg l
    rcases List.mem_cons.1 h with rfl | h
    · omega
    · have := sumT_mem h; omega
def Light (s : Int) (l : List D) : Prop := l.length ≤ 200 ∧ sumT l ≤ 2000 ∧ ¬ (2000 < s ∧ s ≤ 1048576)
theorem rdT_eq {l l0 l1 : List D} {x : D} (h : l = l0 ++ x :: l1) : rd_T30 l (l0.length : Int) = x := by
  unfold rd_T30
  rw [h, List.getD_eq_getElem?_getD, show ((l0.length : Int)).toNat = l0.length from rfl, List.getElem?_append_right (Nat.le_refl _)]; simp
theorem heavy_end {l : List D} {K : Nat} {acc k s : Int} (i : Int) (h : ¬ i < (l.length : Int) ∨ ¬ i < 200) (ha : l.length ≤ 200 → acc = sumT l) : ∃ b, marquetrylaw10_heavy.l0 (K + 1) l acc i k s = some b ∧ (b = false → Light s l) := by
  have key : ∃ b, (if (l.length : Int) > 200 then some true else (if acc > 2000 then some true else (if s > 2000 then (some (decide (s ≤ 1048576))) else (some false)))) = some b ∧ (b = false → Light s l) := by
    by_cases c1 : (l.length : Int) > 200
    · rw [if_pos c1]; exact ⟨true, rfl, by simp⟩
    rw [if_neg c1]
    have ha := ha (by omega)
    by_cases c2 : acc > 2000
    · rw [if_pos c2]; exact ⟨true, rfl, by simp⟩
    rw [if_neg c2]
    by_cases c3 : s > 2000
    · rw [if_pos c3]
      refine ⟨_, rfl, fun hb => ⟨by omega, by omega, fun h => ?_⟩⟩
      simp at hb; omega
    · rw [if_neg c3]
      exact ⟨false, rfl, fun _ => ⟨by omega, by omega, fun h => by omega⟩⟩
  rw [marquetrylaw10_heavy.l0]
  by_cases c : i < (l.length : Int)
  · rw [if_pos c, if_neg (by omega)]; exact key
  · rw [if_neg c]; exact key
theorem sumT_snoc (x : D) : ∀ (a : List D), sumT (a ++ [x]) = sumT a + (x.f2.size : Int)
  | [] => by simp [sumT]
  | y :: a => by simp only [List.cons_append, sumT, sumT_snoc x a]; omega
theorem heavy_l {l : List D} {k s : Int} {M : Int} (hM : M = 140737488351232) (hl : ∀ x ∈ l, (x.f2.size : Int) ≤ M) : ∀ (d K : Nat) (l0 l1 : List D) (acc : Int), l = l0 ++ l1 → l0.length + d = 200 → acc = sumT l0 → acc ≤ l0.length * M → d + 1 ≤ K → ∃ b, marquetrylaw10_heavy.l0 K l acc (l0.length : Int) k s = some b ∧ (b = false → Light s l) := by
  intro d
  induction d with
  | zero =>
    intro K l0 l1 acc he hd ha hb hK
    obtain ⟨K, rfl⟩ : ∃ j, K = j + 1 := ⟨K - 1, by omega⟩
    refine heavy_end _ (.inr (by omega)) (fun hle => ?_)
    have : l1 = [] := List.eq_nil_of_length_eq_zero (by rw [he] at hle; simp at hle; omega)
    rw [ha, he, this]; simp
  | succ d ih =>
    intro K l0 l1 acc he hd ha hb hK
    obtain ⟨K, rfl⟩ : ∃ j, K = j + 1 := ⟨K - 1, by omega⟩
    cases l1 with
    | nil => exact heavy_end _ (.inl (by rw [he]; simp)) (fun _ => by rw [ha, he]; simp)
    | cons x l1 =>
      have hx := hl x (by rw [he]; simp)
      have h0 := sumT_nonneg l0
      have hb2 : acc + (x.f2.size : Int) ≤ ((l0.length + 1 : Nat) : Int) * M := by rw [Int.natCast_add, Int.add_mul]; omega
      have hb3 : ((l0.length + 1 : Nat) : Int) * M ≤ 200 * M := Int.mul_le_mul_of_nonneg_right (by omega) (by omega)
      rw [marquetrylaw10_heavy.l0, if_pos (by rw [he]; simp; omega), if_pos (by omega), if_pos (by omega), rdT_eq he, w64 (by omega) (by omega), w64 (by omega) (by omega)]
      have := ih K (l0 ++ [x]) l1 (acc + (x.f2.size : Int)) (by rw [he]; simp) (by simp; omega) (by rw [sumT_snoc, ha]) (by simpa using hb2) (by omega)
      simp only [List.length_append, List.length_singleton] at this
      rw [show ((l0.length : Int) + 1) = ((l0.length + 1 : Nat) : Int) by omega]
      exact this
theorem heavy {l : List D} {K : Nat} {k s : Int} (hK : 201 ≤ K) (hl : ∀ x ∈ l, x.f2.size ≤ 140737488351232) : ∃ b, marquetrylaw10_heavy.f K k s l = some b ∧ (b = false → Light s l) := by
  unfold marquetrylaw10_heavy.f
  exact heavy_l rfl (fun x hx => by have := hl x hx; omega) 200 K [] l 0 rfl rfl rfl (by simp) (by omega)
theorem ref_fine {K : Nat} {x : D} (hK : 1 ≤ K) (hx : (Lit.int .i64 x.f1).wf = true) : marquetryref09_Fine.f K x.f0 x.f1 x.f2 = some (fineB x.f0 x.f1 x.f2) := by
  obtain ⟨K, rfl⟩ : ∃ j, K = j + 1 := ⟨K - 1, by omega⟩
  obtain ⟨x0, x1⟩ := wf_i64 hx
  obtain ⟨k, n, s⟩ := x
  simp only at x0 x1 ⊢
  have hsz : s.toList = [] ↔ s.size = 0 := by
    constructor
    · intro h
      have := bytesOf_length s
      have h2 : bytesOf s = [] := by unfold bytesOf; rw [show s.data.toList = s.toList from by simp [ByteArray.toList_eq]]; rw [h]; rfl
      rw [h2] at this
      simpa using this.symm
    · intro h
      have := bytesOf_length s
      rw [h] at this
      have h2 := List.eq_nil_of_length_eq_zero this
      unfold bytesOf at h2
      have h3 := List.map_eq_nil_iff.1 h2
      rw [show s.toList = s.data.toList from by simp [ByteArray.toList_eq]]
      exact h3
  unfold marquetryref09_Fine.f fineB
  simp only [marquetryref09_Fine.j0]
  have hE : s.toList.isEmpty = decide (s.size = 0) := by
    by_cases h : s.size = 0
    · rw [decide_eq_true h, hsz.2 h]; rfl
    · rw [decide_eq_false h]
      cases hq : s.toList with
      | nil => exact absurd (hsz.1 hq) h
      | cons a b => rfl
  rw [hE]
  have hs1 : ∀ (A B : Option Bool), (if s.toList = ([] : List UInt8) then A else B) = if s.size = 0 then A else B := fun A B => by
    by_cases h : s.size = 0
    · rw [if_pos h, if_pos (hsz.2 h)]
    · rw [if_neg h, if_neg (fun e => h (hsz.1 e))]
  simp only [hs1]
  by_cases h6 : k = 6
  · subst h6
    by_cases a0 : n = 0 <;> by_cases a1 : (s.size : Int) ≤ 1048576 <;> simp [kindsF, kLo, kHi, a0, a1] <;> omega
  by_cases h7 : k = 7
  · subst h7
    by_cases a0 : n = 0 <;> by_cases a1 : (s.size : Int) ≤ 1048576 <;> by_cases a2 : s.size = 0 <;> simp [kindsF, kLo, kHi, a0, a1, a2] <;> omega
  have e6 : (k == 6) = false := beq_eq_false_iff_ne.2 h6
  have e7 : (k == 7) = false := beq_eq_false_iff_ne.2 h7
  rw [if_neg h6]
  simp only [e6, e7, Bool.false_eq_true, if_false, Bool.or_self, Bool.false_or, Bool.not_false, Bool.true_or, Bool.and_true]
  by_cases a2 : s.size = 0
  · rw [if_pos a2]
    have a3 : decide ((s.size : Int) ≤ 1048576) = true := decide_eq_true (by omega)
    rw [a3, decide_eq_true a2]
    by_cases h0 : k = 0
    · subst h0
      by_cases b0 : n = 0
      · subst b0; simp [kindsF, kLo, kHi]
      · by_cases b1 : n = 1
        · subst b1; simp [kindsF, kLo, kHi]
        · have b2 : ¬ (0 ≤ n ∧ n ≤ 1) := by omega
          by_cases b3 : 0 ≤ n
          · have b4 : ¬ n ≤ 1 := fun h => b2 ⟨b3, h⟩
            simp [kindsF, kLo, kHi, b0, b1, b3, b4]
          · simp [kindsF, kLo, kHi, b0, b1, b3]
    by_cases h1 : k = 1
    · subst h1
      by_cases b0 : n ≥ -2147483648
      · simp [kindsF, kLo, kHi, b0]
      · have b1 : ¬ -2147483648 ≤ n := b0
        simp [kindsF, kLo, kHi, b1]
    by_cases h4 : k = 4
    · subst h4
      by_cases b0 : n ≥ 0
      · simp [kindsF, kLo, kHi, b0]
      · have b1 : ¬ 0 ≤ n := b0
        simp [kindsF, kLo, kHi, b1]
    by_cases h2 : k = 2
    · subst h2
      simp [kindsF, kLo, kHi]; omega
    by_cases h5 : k = 5
    · subst h5
      simp [kindsF, kLo, kHi]; omega
    · simp [kindsF, h0, h1, h2, h4, h5, h6, h7]
  · rw [if_neg a2, decide_eq_false a2]
    simp
theorem ref_of {K : Nat} {k s : Int} {x : D} (hK : 1 ≤ K) (hx : (Lit.int .i64 x.f1).wf = true) : marquetryref09_Of.f K x.f0 x.f1 x.f2 k s = some (!badB k s x) := by
  unfold marquetryref09_Of.f badB
  rw [ref_check hK, Option.bind_some]
  cases chkB k s with
  | false => rfl
  | true =>
    rw [if_pos rfl, ref_fine hK hx, Option.bind_some]
    cases fineB x.f0 x.f1 x.f2 with
    | false => rfl
    | true =>
      rw [if_pos rfl]
      by_cases c : x.f0 = k
      · rw [if_pos c]
        by_cases c7 : k = 7
        · rw [if_pos c7]; simp [c, c7]
        · rw [if_neg c7]; simp [c, c7]
      · rw [if_neg c]; simp [c]
def askS (k s : Int) (l : List D) : Int := if chkB k s = false ∨ l.any (badB k s) = true then 2 else if (l.length : Int) > 65536 then 3 else 0
theorem asked {k s : Int} {l : List D} (hk : (Lit.int .i64 k).wf = true) (hl : ∀ x ∈ l, (Lit.int .i64 x.f0).wf = true) : plain_asked.f k s l = some (askS k s l) := by
  unfold plain_asked.f
  rw [if_pos ⟨hk, hl⟩]
  rfl
theorem ref_asked_l {k s : Int} {l : List D} (hl : ∀ x ∈ l, (Lit.int .i64 x.f1).wf = true) (hlen : l.length ≤ 1000000) : ∀ (l1 l0 : List D) (K : Nat), l = l0 ++ l1 → l1.length + 2 ≤ K → marquetryref09_asked.l0 K l (l0.length : Int) k s = some (if l1.any (badB k s) = true then 2 else if (l.length : Int) > 65536 then 3 else 0)
  | [], l0, K, he, hK => by
    obtain ⟨K, rfl⟩ : ∃ j, K = j + 1 := ⟨K - 1, by omega⟩
    rw [marquetryref09_asked.l0, if_neg (by rw [he]; simp)]
    by_cases c : (l.length : Int) > 65536
    · rw [if_pos c]; simp [c]
    · rw [if_neg c]; simp [c]
  | x :: l1, l0, K, he, hK => by
    obtain ⟨K, rfl⟩ : ∃ j, K = j + 1 := ⟨K - 1, by omega⟩
    have hll : l.length = l0.length + (l1.length + 1) := by rw [he]; simp
    have hx := hl x (by rw [he]; simp)
    rw [marquetryref09_asked.l0, if_pos (by omega), if_pos (by omega), rdT_eq he, ref_of (by rw [List.length_cons] at hK; omega) hx, Option.bind_some]
    cases hb : badB k s x with
    | true => rw [if_neg (by simp)]; simp [hb]
    | false =>
      rw [if_pos (by simp), w64 (by omega) (by omega)]
      have ih := ref_asked_l (k := k) (s := s) hl hlen l1 (l0 ++ [x]) K (by rw [he]; simp) (by rw [List.length_cons] at hK; omega)
      simp only [List.length_append, List.length_singleton] at ih
      rw [show ((l0.length : Int) + 1) = ((l0.length + 1 : Nat) : Int) by omega, ih]
      simp [hb]
theorem ref_asked {K : Nat} {k s : Int} {l : List D} (hl : ∀ x ∈ l, (Lit.int .i64 x.f1).wf = true) (hlen : l.length ≤ 1000000) (hK : l.length + 2 ≤ K) : marquetryref09_asked.f K k s l = some (askS k s l) := by
  unfold marquetryref09_asked.f askS
  rw [ref_check (by omega), Option.bind_some]
  cases hc : chkB k s with
  | false => simp
  | true =>
    rw [if_pos rfl]
    have := ref_asked_l (k := k) (s := s) hl hlen l [] K rfl hK
    rw [show (([] : List D).length : Int) = 0 from rfl] at this
    rw [this]; simp
def bytesS (k : Int) (x : D) : List Int := if k = 6 then leb 4 (x.f2.size : Int) ++ bytesOf x.f2 else if k = 7 then bytesOf x.f2 else leb (wide k).toNat x.f1
theorem leb_mod : ∀ (d : Nat) (n : Int), leb d (n % 256 ^ d) = leb d n
  | 0, _ => rfl
  | d + 1, n => by
    have hp : (0 : Int) < 256 ^ d := Int.pow_pos (by decide)
    have e1 : n % 256 ^ (d + 1) % 256 = n % 256 := Int.emod_emod_of_dvd n (by rw [Int.pow_succ]; exact Int.dvd_mul_left _ _)
    have e2 : n % 256 ^ (d + 1) / 256 = n / 256 % 256 ^ d := by
      rw [Int.pow_succ, Int.mul_comm (256 ^ d) 256]
      generalize (256 : Int) ^ d = M at hp
      have h1 := Int.mul_ediv_add_emod n 256
      have h2 := Int.mul_ediv_add_emod (n / 256) M
      have r1 := Int.emod_nonneg (n / 256) (show M ≠ 0 by omega)
      have r2 := Int.emod_lt_of_pos (n / 256) hp
      have h3 : n = (256 * (n / 256 % M) + n % 256) + (256 * M) * (n / 256 / M) := by
        rw [Int.mul_assoc]
        omega
      have h4 : n % (256 * M) = 256 * (n / 256 % M) + n % 256 := by
        have e := congrArg (· % (256 * M)) h3
        simp only [Int.add_mul_emod_self_left] at e
        rw [e, Int.emod_eq_of_lt (by omega) (by omega)]
      rw [h4]
      omega
    rw [leb, leb, e1, e2, leb_mod d]
theorem leb_snoc : ∀ (d : Nat) (n : Int), leb (d + 1) n = leb d n ++ [n / 256 ^ d % 256]
  | 0, n => by simp [leb]
  | d + 1, n => by
    rw [leb, leb_snoc d (n / 256), leb, Int.ediv_ediv, if_neg (fun h => absurd h.1 (by decide)), Int.sub_zero, show (256 : Int) * 256 ^ d = 256 ^ (d + 1) by rw [Int.pow_succ, Int.mul_comm]]
    rfl
theorem bits_l : ∀ (d K : Nat) (n : Int) (m i : Nat), i + d = m → m ≤ 8 → d < K → marquetryref09_bits.l0 K n (m : Int) (leb i n ++ List.replicate d 0) (i : Int) = some (leb m n)
  | 0, K, n, m, i, hi, hm, hK => by
    obtain ⟨K, rfl⟩ : ∃ j, K = j + 1 := ⟨K - 1, by omega⟩
    rw [marquetryref09_bits.l0, if_neg (by omega), show i = m by omega]; simp
  | d + 1, K, n, m, i, hi, hm, hK => by
    obtain ⟨K, rfl⟩ : ∃ j, K = j + 1 := ⟨K - 1, by omega⟩
    have hlen : (leb i n ++ List.replicate (d + 1) (0 : Int)).length = m := by simp [leb_length]; omega
    rw [marquetryref09_bits.l0, if_pos (by omega), w64 (a := 8 * (i : Int)) (by omega) (by omega), if_pos (by omega), if_pos (by omega), if_pos (by omega), w64 (a := (i : Int) + 1) (by omega) (by omega)]
    have e : shr .i64 n (8 * (i : Int)) = n / 256 ^ i := by
      unfold shr
      rw [Nat.min_eq_left (by simp [IntKind.bits]; omega), show (8 * (i : Int)).toNat = 8 * i by omega, pow256]
    have e2 : (leb i n ++ List.replicate (d + 1) (0 : Int)).set ((i : Int)).toNat (n / 256 ^ i % 256) = leb (i + 1) n ++ List.replicate d 0 := by
      rw [show ((i : Int)).toNat = i from rfl, List.replicate_succ, List.set_append_right _ _ (by rw [leb_length]; exact Nat.le_refl _), leb_length, Nat.sub_self, List.set_cons_zero, leb_snoc]; simp
    rw [e, e2, show ((i : Int) + 1) = ((i + 1 : Nat) : Int) by omega]
    exact bits_l d K n m (i + 1) (by omega) hm (by omega)
theorem ref_bits {K : Nat} {n : Int} {m : Nat} (hm : m ≤ 8) (hK : 10 ≤ K) : marquetryref09_bits.f K n (m : Int) = some (leb m n) := by
  unfold marquetryref09_bits.f
  rw [if_pos (by omega), show ((m : Int)).toNat = m from rfl, if_pos (by omega)]
  exact bits_l m K n m 0 (by omega) hm (by omega)
theorem mask32 {a : Int} (h0 : 0 ≤ a) (h1 : a ≤ 18446744073709551615) : bits .and .u64 a 4294967295 = a % 4294967296 := by
  obtain ⟨n, rfl⟩ := Int.eq_ofNat_of_zero_le h0
  have e := (bits_nat .u64 64 (by decide) wraps_u64 n 4294967295 (by omega) (by decide)).1
  have e2 : ((4294967295 : Nat) : Int) = 4294967295 := rfl
  rw [e2] at e
  rw [e, show (4294967295 : Nat) = 2 ^ 32 - 1 from rfl, Nat.and_two_pow_sub_one_eq_mod]
  omega
theorem not_bad {k s : Int} {x : D} (h : badB k s x = false) : x.f0 = k ∧ (k = 7 → (x.f2.size : Int) = s) ∧ fineB x.f0 x.f1 x.f2 = true := by
  unfold badB at h
  simp only [Bool.not_eq_false', Bool.and_eq_true, beq_iff_eq, Bool.or_eq_true, Bool.not_eq_true', beq_eq_false_iff_ne, ne_eq] at h
  obtain ⟨⟨⟨_, h2⟩, h3⟩, h4⟩ := h
  exact ⟨h3, fun e => by rcases h4 with h4 | h4; exact absurd e h4; exact h4, h2⟩
theorem wr_by {F : Nat} {k s : Int} {x : D} (hF : 12 ≤ F) (hx : badB k s x = false) (hsz : x.f2.size ≤ 2000) : wrBy F k x = some (bytesS k x) := by
  unfold wrBy bytesS
  by_cases h6 : k = 6
  · rw [if_pos h6, if_pos h6, u64w, Int.emod_eq_of_lt (by omega) (by omega), little hF (by decide) (by decide), Option.bind_some]
    have e : LittleR (x.f2.size : Int) 4 = (leb 4 (x.f2.size : Int), 0) := by
      unfold LittleR
      rw [if_neg]
      · rfl
      · rintro (h | h | ⟨_, h⟩)
        · omega
        · omega
        · exact h (Int.ediv_eq_zero_of_lt (by omega) (by rw [show (2 : Int) ^ (8 * (4 : Int)).toNat = 4294967296 by decide]; omega))
    rw [e, if_pos (by simp [leb_length])]
  rw [if_neg h6, if_neg h6]
  by_cases h7 : k = 7
  · rw [if_pos h7, if_pos h7]
  rw [if_neg h7, if_neg h7]
  have hw := wide_range k
  have hu : IntKind.u64.wrap x.f1 = x.f1 % 18446744073709551616 := u64w _
  have hu0 := Int.emod_nonneg x.f1 (show (18446744073709551616 : Int) ≠ 0 by decide)
  have hu1 := Int.emod_lt_of_pos x.f1 (show (0 : Int) < 18446744073709551616 by decide)
  rcases hw with hw | hw
  · rw [hw]
    unfold wrN
    rw [if_pos rfl, hu, mask32 hu0 (by omega), little hF (by decide) (by decide), Option.bind_some, Int.emod_emod_of_dvd _ (by decide)]
    have e : LittleR (x.f1 % 4294967296) 4 = (leb 4 (x.f1 % 4294967296), 0) := by
      have h0 := Int.emod_nonneg x.f1 (show (4294967296 : Int) ≠ 0 by decide)
      have h1 := Int.emod_lt_of_pos x.f1 (show (0 : Int) < 4294967296 by decide)
      unfold LittleR
      rw [if_neg]
      · rfl
      · rintro (h | h | ⟨_, h⟩)
        · omega
        · omega
        · exact h (Int.ediv_eq_zero_of_lt h0 (by rw [show (2 : Int) ^ (8 * (4 : Int)).toNat = 4294967296 by decide]; exact h1))
    rw [e]
    have := leb_mod 4 x.f1
    rw [show (256 : Int) ^ 4 = 4294967296 by decide] at this
    rw [this]; rfl
  · rw [hw]
    unfold wrN
    rw [if_neg (by decide), hu, little hF (by decide) (by decide), Option.bind_some]
    have e : LittleR (x.f1 % 18446744073709551616) 8 = (leb 8 (x.f1 % 18446744073709551616), 0) := by
      unfold LittleR
      rw [if_neg]
      · rfl
      · rintro (h | h | ⟨h, _⟩) <;> omega
    rw [e]
    have := leb_mod 8 x.f1
    rw [show (256 : Int) ^ 8 = 18446744073709551616 by decide] at this
    rw [this]; rfl
theorem by_s {K : Nat} {k s : Int} {x : D} (hK : 10 ≤ K) (hx : badB k s x = false) (hk : k = 1 ∨ k = 2 ∨ k = 4 ∨ k = 5 ∨ k = 6 ∨ k = 7) (hsz : x.f2.size ≤ 2000) : byS K x = some (bytesS k x) := by
  obtain ⟨h0, _, _⟩ := not_bad hx
  unfold byS bytesS
  rw [h0]
  have b4 : ∀ n, marquetryref09_bits.f K n 4 = some (leb 4 n) := fun n => ref_bits (m := 4) (by omega) hK
  have b8 : ∀ n, marquetryref09_bits.f K n 8 = some (leb 8 n) := fun n => ref_bits (m := 8) (by omega) hK
  rcases hk with rfl | rfl | rfl | rfl | rfl | rfl
  · rw [if_pos (.inl rfl), b4, if_neg (by decide), if_neg (by decide)]; rfl
  · rw [if_neg (by decide), if_pos (.inl rfl), b8, if_neg (by decide), if_neg (by decide)]; rfl
  · rw [if_pos (.inr rfl), b4, if_neg (by decide), if_neg (by decide)]; rfl
  · rw [if_neg (by decide), if_pos (.inr rfl), b8, if_neg (by decide), if_neg (by decide)]; rfl
  · rw [if_neg (by decide), if_neg (by decide), if_pos rfl, if_pos rfl, b4, Option.bind_some, if_pos (by rw [leb_length]; omega)]
  · rw [if_neg (by decide), if_neg (by decide), if_neg (by decide), if_pos (by omega), if_neg (by decide), if_pos rfl]
def flat (k : Int) (l : List D) : List Int := l.flatMap (bytesS k)
theorem bytesS_len {k s : Int} {x : D} (hx : badB k s x = false) (hs : 0 ≤ s) : ((bytesS k x).length : Int) = if k = 6 then 4 + (x.f2.size : Int) else if k = 7 then s else wide k := by
  obtain ⟨_, h7s, _⟩ := not_bad hx
  unfold bytesS
  by_cases h6 : k = 6
  · rw [if_pos h6, if_pos h6, List.length_append, leb_length, bytesOf_length]; omega
  rw [if_neg h6, if_neg h6]
  by_cases h7 : k = 7
  · rw [if_pos h7, if_pos h7, bytesOf_length]; exact h7s h7
  rw [if_neg h7, if_neg h7, leb_length]
  have := wide_range k
  omega
theorem bytesS_small {k : Int} {x : D} (h : x.f2.size ≤ 2000) : (bytesS k x).length ≤ 2008 := by
  unfold bytesS
  have := wide_range k
  split
  · rw [List.length_append, leb_length, bytesOf_length]; omega
  · split
    · rw [bytesOf_length]; omega
    · rw [leb_length]; omega
theorem wr_go {F : Nat} {k s : Int} (hF : 12 ≤ F) : ∀ (l : List D) (acc : List Int), (∀ x ∈ l, badB k s x = false ∧ x.f2.size ≤ 2000) → acc.length + l.length * 2008 ≤ 1000000000 → wrGo F k l acc = some (acc ++ flat k l)
  | [], acc, _, _ => by simp [wrGo, flat]
  | x :: l, acc, h, hl => by
    obtain ⟨h1, h2⟩ := h x (by simp)
    have h3 := bytesS_small (k := k) h2
    rw [List.length_cons] at hl
    rw [wrGo, wr_by hF h1 h2, Option.bind_some, if_pos (by omega), wr_go hF l _ (fun y hy => h y (by simp [hy])) (by rw [List.length_append]; omega)]
    simp [flat]
theorem wl_s {K : Nat} {k s : Int} (hK : 10 ≤ K) (hk : k = 1 ∨ k = 2 ∨ k = 4 ∨ k = 5 ∨ k = 6 ∨ k = 7) : ∀ (l : List D) (acc : List Int), (∀ x ∈ l, badB k s x = false ∧ x.f2.size ≤ 2000) → acc.length + l.length * 2008 ≤ 1000000000 → wlS K l acc = some (acc ++ flat k l)
  | [], acc, _, _ => by simp [wlS, flat]
  | x :: l, acc, h, hl => by
    obtain ⟨h1, h2⟩ := h x (by simp)
    have h3 := bytesS_small (k := k) h2
    rw [List.length_cons] at hl
    rw [wlS, by_s hK h1 hk h2, Option.bind_some, if_pos (by omega), wl_s hK hk l _ (fun y hy => h y (by simp [hy])) (by rw [List.length_append]; omega)]
    simp [flat]
theorem flat_small {k : Int} : ∀ (l : List D), (∀ x ∈ l, x.f2.size ≤ 2000) → (flat k l).length ≤ l.length * 2008
  | [], _ => by simp [flat]
  | x :: l, h => by
    have h1 := bytesS_small (k := k) (h x (by simp))
    have h2 := flat_small (k := k) l (fun y hy => h y (by simp [hy]))
    have e : flat k (x :: l) = bytesS k x ++ flat k l := by simp [flat]
    rw [e, List.length_append, List.length_cons]; omega
theorem sum_s {k s : Int} (hs : 0 ≤ s) (hs2 : s ≤ 1048576) : ∀ (l : List D) (n : Int), (∀ x ∈ l, badB k s x = false ∧ x.f2.size ≤ 2000) → 0 ≤ n → n + l.length * 2008 ≤ 1000000000 → sumS k s l n = n + ((flat k l).length : Int)
  | [], n, _, _, _ => by simp [sumS, flat]
  | x :: l, n, h, h0, hn => by
    obtain ⟨h1, h2⟩ := h x (by simp)
    have h3 := bytesS_len h1 hs
    have h4 := bytesS_small (k := k) h2
    rw [List.length_cons] at hn
    have e : sizeB k s x = ((bytesS k x).length : Int) := by
      rw [h3]
      unfold sizeB
      by_cases h6 : k = 6
      · rw [if_pos h6, if_pos h6, w64 (by omega) (by omega)]
      · rw [if_neg h6, if_neg h6]
    have e2 : flat k (x :: l) = bytesS k x ++ flat k l := by simp [flat]
    rw [sumS, e, w64 (by omega) (by omega), sum_s hs hs2 l _ (fun y hy => h y (by simp [hy])) (by omega) (by omega), e2, List.length_append]
    omega
def u64s (l : List D) : List Int := l.map fun x => IntKind.u64.wrap x.f1
def WriteS (k s : Int) (l : List D) : List Int × Int := if askS k s l ≠ 0 then ([], askS k s l) else if k = 0 then PackR 1 (u64s l) else (flat k l, 0)
theorem ask_ok {k s : Int} {l : List D} (h : askS k s l = 0) : chkB k s = true ∧ (∀ x ∈ l, badB k s x = false) ∧ (l.length : Int) ≤ 65536 := by
  unfold askS at h
  by_cases c : chkB k s = false ∨ l.any (badB k s) = true
  · rw [if_pos c] at h; exact absurd h (by decide)
  · rw [if_neg c] at h
    by_cases c2 : (l.length : Int) > 65536
    · rw [if_pos c2] at h; exact absurd h (by decide)
    · refine ⟨?_, fun x hx => ?_, by omega⟩
      · cases hc : chkB k s with
        | true => rfl
        | false => exact absurd (.inl hc) c
      · cases hb : badB k s x with
        | false => rfl
        | true => exact absurd (.inr (List.any_eq_true.2 ⟨x, hx, hb⟩)) c
theorem chk_size {k s : Int} (h : chkB k s = true) : 0 ≤ s ∧ s ≤ 1048576 := by
  obtain ⟨hk, h7⟩ := chk_kind h
  by_cases c : k = 7
  · have := h7 c; omega
  · have hq : (k == 7) = false := beq_eq_false_iff_ne.2 c
    unfold chkB at h
    rw [hq] at h
    simp at h
    omega
theorem truth_bits {s : Int} {l : List D} (h : ∀ x ∈ l, badB 0 s x = false) : ∀ y ∈ u64s l, y = 0 ∨ y = 1 := by
  intro y hy
  obtain ⟨x, hx, rfl⟩ := List.mem_map.1 hy
  obtain ⟨h0, _, hf⟩ := not_bad (h x hx)
  unfold fineB at hf
  rw [h0] at hf
  simp [kindsF, kLo, kHi] at hf
  rw [u64w]
  omega
theorem pack_truths {l : List Int} (h : ∀ y ∈ l, y = 0 ∨ y = 1) (hl : l.length ≤ 65536) : PackR 1 l = (packB (allBits 1 l), 0) ∧ ((packB (allBits 1 l)).length : Int) = ((l.length : Int) + 7) / 8 := by
  constructor
  · unfold PackR
    rw [if_neg (by omega), if_pos, if_pos]
    · rfl
    · unfold SizeR
      rw [if_neg (by omega), if_neg (by omega)]
    · intro x hx
      rcases h x hx with rfl | rfl
      · have := (wd_le 1 (0 : Int).toNat).2 (by decide)
        omega
      · have := (wd_le 1 (1 : Int).toNat).2 (by decide)
        omega
  · rw [packB_length, allBits_length]; omega
def SizeS (k s : Int) (l : List D) : Int × Int := if askS k s l ≠ 0 then (0, askS k s l) else if k = 0 then (((l.length : Int) + 7) / 8, 0) else (((flat k l).length : Int), 0)
theorem size_s {k s : Int} {l : List D} (hk : (Lit.int .i64 k).wf = true) (hl : ∀ x ∈ l, (Lit.int .i64 x.f0).wf = true) (hL : Light s l) : plain_Size.f k s l = some (SizeS k s l) := by
  unfold plain_Size.f SizeS
  rw [asked hk hl, Option.bind_some]
  by_cases c : askS k s l = 0
  · obtain ⟨hc, hb, hn⟩ := ask_ok c
    obtain ⟨s0, s1⟩ := chk_size hc
    obtain ⟨hkk, _⟩ := chk_kind hc
    have hne : ¬ askS k s l ≠ 0 := fun h => h c
    rw [if_neg hne, if_neg hne]
    by_cases c0 : k = 0
    · rw [if_pos c0, if_pos c0]
    · have hsm : ∀ x ∈ l, x.f2.size ≤ 2000 := fun x hx => by have := sumT_mem hx; have := hL.2.1; omega
      have hfl := flat_small (k := k) l hsm
      have hlen := hL.1
      have hsum := sum_s s0 s1 l 0 (fun x hx => ⟨hb x hx, hsm x hx⟩) (by omega) (by omega)
      rw [if_neg c0, if_neg c0, if_pos (by omega), hsum, if_neg (by omega)]
      simp
  · rw [if_pos c, if_pos c]
theorem write {F : Nat} {k s : Int} {l : List D} (hF : 66 ≤ F) (hk : (Lit.int .i64 k).wf = true) (hl : ∀ x ∈ l, (Lit.int .i64 x.f0).wf = true) (hL : Light s l) : plain_Write.f F k s l = some (WriteS k s l) := by
  unfold plain_Write.f
  rw [size_s hk hl hL, Option.bind_some]
  unfold SizeS WriteS
  by_cases c : askS k s l = 0
  · obtain ⟨hc, hb, hn⟩ := ask_ok c
    obtain ⟨hkk, _⟩ := chk_kind hc
    have hlen := hL.1
    have hne : ¬ askS k s l ≠ 0 := fun h => h c
    rw [if_neg hne, if_neg hne]
    by_cases c0 : k = 0
    · rw [if_pos c0, if_neg (by simp), if_pos c0, if_pos c0, if_pos (by omega)]
      subst c0
      have ht := truth_bits hb
      exact pack hF (fun y hy => by rcases ht y hy with h | h <;> omega)
    · have hsm : ∀ x ∈ l, x.f2.size ≤ 2000 := fun x hx => by have := sumT_mem hx; have := hL.2.1; omega
      rw [if_neg c0, if_neg (by simp), if_neg c0, if_neg c0, if_pos (by omega), wr_go (s := s) (by omega) l [] (fun x hx => ⟨hb x hx, hsm x hx⟩) (by simp; omega)]
      simp
  · rw [if_pos c, if_pos (show (((0 : Int), askS k s l)).2 ≠ 0 from c), if_pos c]
theorem ref_write {K : Nat} {k s : Int} {l : List D} (hK : 20000 ≤ K) (hl : ∀ x ∈ l, (Lit.int .i64 x.f1).wf = true) (hL : Light s l) : marquetryref09_Write.f K k s l = some (WriteS k s l) := by
  have hlen := hL.1
  unfold marquetryref09_Write.f WriteS
  rw [ref_asked hl (by omega) (by omega), Option.bind_some]
  by_cases c : askS k s l = 0
  · obtain ⟨hc, hb, hn⟩ := ask_ok c
    obtain ⟨hkk, _⟩ := chk_kind hc
    have hne : ¬ askS k s l ≠ 0 := fun h => h c
    rw [if_neg hne, if_neg hne, if_pos (by omega)]
    by_cases c0 : k = 0
    · rw [if_pos c0, if_pos c0]
      subst c0
      have ht := truth_bits hb
      have hll : (u64s l).length ≤ 200 := by unfold u64s; rw [List.length_map]; exact hlen
      show marquetryref01_Pack.f K 1 (u64s l) = some (PackR 1 (u64s l))
      exact ref_pack (by omega) (fun y hy => by rcases ht y hy with h | h <;> omega) (by omega)
    · have hsm : ∀ x ∈ l, x.f2.size ≤ 2000 := fun x hx => by have := sumT_mem hx; have := hL.2.1; omega
      have hfl := flat_small (k := k) l hsm
      rw [if_neg c0, if_neg c0, wl_s (s := s) (by omega) (by omega) l [] (fun x hx => ⟨hb x hx, hsm x hx⟩) (by simp; omega), Option.bind_some, List.nil_append, if_neg (by omega)]
  · rw [if_pos c, if_pos c]
theorem write_size {k s : Int} {l : List D} (hL : Light s l) : (SizeS k s l).1 = ((WriteS k s l).1.length : Int) ∧ (SizeS k s l).2 = (WriteS k s l).2 := by
  unfold SizeS WriteS
  by_cases c : askS k s l = 0
  · obtain ⟨hc, hb, hn⟩ := ask_ok c
    have hne : ¬ askS k s l ≠ 0 := fun h => h c
    rw [if_neg hne, if_neg hne]
    by_cases c0 : k = 0
    · subst c0
      rw [if_pos rfl, if_pos rfl]
      have hll : (u64s l).length = l.length := by unfold u64s; rw [List.length_map]
      obtain ⟨e1, e2⟩ := pack_truths (truth_bits hb) (by omega)
      rw [e1]
      exact ⟨by rw [e2, hll], rfl⟩
    · rw [if_neg c0, if_neg c0]; exact ⟨rfl, rfl⟩
  · rw [if_pos c, if_pos c]; exact ⟨rfl, rfl⟩
end Go.Proofs.Ytcklkngljapecaa.L10
end

section
namespace Go.Proofs.Ytcklkngljapecaa.Rd
open Go.ChangeShapes Go.WideShapes Go.Deep Go.RowKit Go.Joins Go.Proofs.YtcklkngljapecaaW.PrintWords
structure Opens (P : Program) (t : TypeId) {α : Type} (d : Kd α) (Wf : α → Prop) : Prop where
  opens : ∀ {H : Type} {enc : TypeId × Value → H} {w : World} {base : Nat} {spare : Nat → Bool} {held : Bool} {n : Nat} {cs : List Value} {y : DataW H × List MemPlace},
    DataW.trod enc P w base spare held n t cs = some y → (∀ m ∈ y.1.weights P t, m ≤ reachBytes) → ∃ x, d.K w x cs ∧ Wf x
theorem reach_le {m : Nat} (h : m ≤ reachBytes) : m ≤ 140737488351232 := h
theorem opens_int {P : Program} {t : TypeId} {k : IntKind} (hu : P.underlying t = some (.int k)) : Opens P t (Kd.int k) (fun x => (Lit.int k x).wf = true) := by
  refine ⟨fun {H enc w base spare held n cs y} h _ => ?_⟩
  obtain ⟨x, rfl, _, hw⟩ := DataW.trod_int hu h
  exact ⟨x, rfl, hw⟩
theorem opens_string {P : Program} {t : TypeId} (hu : P.underlying t = some .string) : Opens P t Kd.string (fun x => x.size ≤ 140737488351232) := by
  refine ⟨fun {H enc w base spare held n cs y} h hw => ?_⟩
  obtain ⟨x, rfl, hx, _⟩ := DataW.trod_string hu h
  subst hx
  refine ⟨x, rfl, ?_⟩
  have := hw x.data.toList.length (by simp [DataW.weights])
  rw [Array.length_toList] at this
  exact this
theorem list_of {α : Type} {p : Nat → α → Prop} : ∀ (n : Nat), (∀ i, i < n → ∃ x, p i x) → ∃ xs : List α, xs.length = n ∧ ∀ i x, xs[i]? = some x → p i x
  | 0, _ => ⟨[], rfl, fun i x h => by simp at h⟩
  | n + 1, h => by
    obtain ⟨xs, hl, hx⟩ := list_of n (fun i hi => h i (by omega))
    obtain ⟨x, hp⟩ := h n (by omega)
    refine ⟨xs ++ [x], by simp [hl], fun i y hy => ?_⟩
    rcases Nat.lt_or_ge i xs.length with hi | hi
    · rw [List.getElem?_append_left hi] at hy; exact hx i y hy
    · have hi' : i = xs.length := by
        have := (List.getElem?_eq_some_iff.1 hy).1
        simp at this; omega
      subst hi'
      have : x = y := by simpa using hy
      subst this
      rw [hl]; exact hp
theorem weights_all {H : Type} {P : Program} {e : TypeId} : ∀ (ds : List (DataW H)) (d : DataW H), d ∈ ds → ∀ m ∈ d.weights P e, m ∈ DataW.weightsAll P e ds
  | [], d, h, _, _ => by simp at h
  | d0 :: ds, d, h, m, hm => by
    simp only [DataW.weightsAll, List.mem_append]
    rcases List.mem_cons.1 h with rfl | h
    · exact .inl hm
    · exact .inr (weights_all ds d h m hm)
theorem opens_slice {P : Program} {t e : TypeId} {α : Type} {d : Kd α} {Wf : α → Prop} {B : Nat} (hu : P.underlying t = some (.slice e)) (hsz : P.cellsOf e = d.sz) (hB : P.bytesOf e = B) (ho : Opens P e d Wf) :
    Opens P t (Kd.slice e d) (fun xs => (∀ x ∈ xs, Wf x) ∧ xs.length ≤ maxLen ∧ xs.length * B ≤ 140737488351232) := by
  refine ⟨fun {H enc w base spare held n cs y} h hw => ?_⟩
  rcases open_slice hu h with ⟨rfl, _⟩ | ⟨a, len, cap, m, n', D, Pl, rfl, hb, hl, hm, hmm, rfl, hx⟩
  · exact ⟨[], ⟨none, 0, rfl, Nat.le_refl _, rfl, Nat.zero_le _, fun h => absurd h (by simp)⟩, by simp⟩
  · have hlm : len ≤ m := by rw [hmm]; split <;> omega
    have hsize : len * B ≤ 140737488351232 := by
      have := hw ((((List.range len).map D).length + ((List.range (m - len)).map fun j => D (len + j)).length) * P.bytesOf e) (by simp [DataW.weights, hu])
      rw [hB] at this
      refine Nat.le_trans (Nat.mul_le_mul_right _ ?_) (reach_le this)
      simp
    obtain ⟨xs, hxl, hxs⟩ := list_of (p := fun i x => ∃ cs', w.cells? base (a.add (i * P.cellsOf e)) (P.cellsOf e) = some cs' ∧ d.K w x cs' ∧ Wf x) len (fun i hi => by
      obtain ⟨cs', h1, h2⟩ := hx i (by omega)
      obtain ⟨x, hk, hwf⟩ := ho.opens h2 (fun q hq => hw q (by
        simp only [DataW.weights, hu, List.mem_cons, List.mem_append]
        exact .inr (.inl (weights_all _ (D i) (List.mem_map.2 ⟨i, List.mem_range.2 hi, rfl⟩) q hq))))
      exact ⟨x, cs', h1, hk, hwf⟩)
    subst hxl
    refine ⟨xs, ⟨some a, cap, rfl, hl, rfl, ?_, fun _ => ⟨a, rfl, fun j p hp => ?_⟩⟩, ⟨fun x hx' => ?_, Nat.le_trans hl hm, hsize⟩⟩
    · unfold maxLen at hm; omega
    · obtain ⟨cs', h1, hk, _⟩ := hxs j p hp
      obtain ⟨_, hcl, hcc⟩ := World.cells?_some h1
      refine ⟨cs', by rw [hcl, hsz], hk, fun i u hiu => ?_⟩
      have hi : i < P.cellsOf e := by rw [← hcl]; exact (List.getElem?_eq_some_iff.1 hiu).1
      rw [← hsz, ← Go.Deep.add_add, hcc i hi]
      exact hiu
    · obtain ⟨i, hi⟩ := List.getElem?_of_mem hx'
      exact (hxs i x hi).choose_spec.2.2
theorem weights_each {H : Type} {P : Program} {t : TypeId} {fs : Array Field} {ds : List (DataW H)} (hu : P.underlying t = some (.struct fs)) (hw : ∀ m ∈ (DataW.agg ds).weights P t, m ≤ reachBytes) {j : Nat} {f : Field} {d : DataW H} (hf : fs.toList[j]? = some f) (hd : ds[j]? = some d) :
    ∀ m ∈ d.weights P f.type, m ≤ reachBytes := by
  intro m hm
  refine hw m ?_
  simp only [DataW.weights, hu]
  exact DataW.weights_mem_each (by rw [List.getElem?_map, hf]; rfl) hd m hm
theorem one_of {P : Program} {fs : Array Field} (hone : oneCellFields P fs = true) {j : Nat} {f : Field} (h : fs.toList[j]? = some f) : f.offset = j ∧ P.cellsOf f.type = 1 := hone_of hone j f (by simpa using h)
theorem opens_struct2 {P : Program} {t : TypeId} {f0 f1 : Field} {α β : Type} {d0 : Kd α} {d1 : Kd β} {W0 : α → Prop} {W1 : β → Prop} (hu : P.underlying t = some (.struct #[f0, f1])) (hone : oneCellFields P #[f0, f1] = true) (hC : P.cellsOf t = 2)
    (h0 : Opens P f0.type d0 W0) (h1 : Opens P f1.type d1 W1) : Opens P t (Kd.pair d0 d1) (fun x => W0 x.1 ∧ W1 x.2) := by
  refine ⟨fun {H enc w base spare held n cs y} h hw => ?_⟩
  obtain ⟨y0, y1, m, rfl, hl, e0, e1⟩ := trod_struct2 hu h
  obtain ⟨o0, k0⟩ := one_of hone (j := 0) (f := f0) rfl
  obtain ⟨o1, k1⟩ := one_of hone (j := 1) (f := f1) rfl
  rw [hC] at hl
  match cs, hl with
  | [c0, c1], _ =>
    rw [o0, k0] at e0; rw [o1, k1] at e1
    obtain ⟨x0, q0, z0⟩ := h0.opens e0 (weights_each hu hw (j := 0) rfl rfl)
    obtain ⟨x1, q1, z1⟩ := h1.opens e1 (weights_each hu hw (j := 1) rfl rfl)
    exact ⟨(x0, x1), ⟨[c0], [c1], rfl, q0, q1⟩, z0, z1⟩
theorem opens_struct3 {P : Program} {t : TypeId} {f0 f1 f2 : Field} {α β γ : Type} {d0 : Kd α} {d1 : Kd β} {d2 : Kd γ} {W0 : α → Prop} {W1 : β → Prop} {W2 : γ → Prop} (hu : P.underlying t = some (.struct #[f0, f1, f2])) (hone : oneCellFields P #[f0, f1, f2] = true) (hC : P.cellsOf t = 3)
    (h0 : Opens P f0.type d0 W0) (h1 : Opens P f1.type d1 W1) (h2 : Opens P f2.type d2 W2) : Opens P t (Kd.pair d0 (Kd.pair d1 d2)) (fun x => W0 x.1 ∧ W1 x.2.1 ∧ W2 x.2.2) := by
  refine ⟨fun {H enc w base spare held n cs y} h hw => ?_⟩
  obtain ⟨y0, y1, y2, m, rfl, hl, e0, e1, e2⟩ := trod_struct3 hu h
  obtain ⟨o0, k0⟩ := one_of hone (j := 0) (f := f0) rfl
  obtain ⟨o1, k1⟩ := one_of hone (j := 1) (f := f1) rfl
  obtain ⟨o2, k2⟩ := one_of hone (j := 2) (f := f2) rfl
  rw [hC] at hl
  match cs, hl with
  | [c0, c1, c2], _ =>
    rw [o0, k0] at e0; rw [o1, k1] at e1; rw [o2, k2] at e2
    obtain ⟨x0, q0, z0⟩ := h0.opens e0 (weights_each hu hw (j := 0) rfl rfl)
    obtain ⟨x1, q1, z1⟩ := h1.opens e1 (weights_each hu hw (j := 1) rfl rfl)
    obtain ⟨x2, q2, z2⟩ := h2.opens e2 (weights_each hu hw (j := 2) rfl rfl)
    exact ⟨(x0, x1, x2), ⟨[c0], [c1, c2], rfl, q0, [c1], [c2], rfl, q1, q2⟩, z0, z1, z2⟩
theorem opens_iso {P : Program} {t : TypeId} {α β : Type} {d : Kd α} {f : β → α} (g : α → β) (hfg : ∀ a, f (g a) = a) {W : α → Prop} (h : Opens P t d W) : Opens P t (Kd.iso d f) (fun x => W (f x)) := by
  refine ⟨fun {H enc w base spare held n cs y} hh hw => ?_⟩
  obtain ⟨x, hx, hwf⟩ := h.opens hh hw
  refine ⟨g x, ?_, ?_⟩
  · show d.K w (f (g x)) cs
    rw [hfg]; exact hx
  · rw [hfg]; exact hwf
theorem opens_arg {P : Program} {t : TypeId} {α : Type} {d : Kd α} {Wf : α → Prop} (ho : Opens P t d Wf) {H : Type} {enc : TypeId × Value → H} {w : World} {base : Nat} {spare : Nat → Bool} {held : Bool} {v : Value} {dt : DataW H} {p : List MemPlace}
    (h : DataW.Trod enc P w base spare held t v dt p) {ts : List TypeId} {ds : List (DataW H)} {j : Nat} (hsz : (DataW.weightsEach P ts ds).all (· ≤ reachBytes) = true) (ht : ts[j]? = some t) (hd : ds[j]? = some dt) : ∃ x, d.K w x v.cells.toList ∧ Wf x := by
  obtain ⟨n, hn⟩ := h
  refine ho.opens hn (fun m hm => ?_)
  have := List.all_eq_true.1 hsz m (DataW.weights_mem_each ht hd m hm)
  simpa using this
end Go.Proofs.Ytcklkngljapecaa.Rd
end
