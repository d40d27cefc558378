/- LevelsBack: texts of this seat in one (wip/merge.py): L11a, L1b, L11b, L11d, L11s, L20w, L20p, L20b, Rd. -/
import Derived.Test.YtpibhiacmceekaaGLevelsBack2
import Derived.Test.YtpibhiacmceekaaGLevelsBack3
import Derived.Test.YtpibhiacmceekaaGLevelsBack1
import Derived.Test.YtpibhiacmceekaaGLevelsBack0
import Derived.Deep.Slices
import Derived.Lib.SmallJoins
import Derived.SizedLaws
section
namespace Go.Proofs.Ytpibhiacmceekaa.L11
set_option linter.unusedVariables false
set_option linter.unusedSimpArgs false
open Go.RowKit Go.Proofs.Ytpibhiacmceekaa.X Go.Proofs.YtpibhiacmceekaaW.PrintWords Go.Proofs.YtpibhiacmceekaaW.PrintLast Go.Proofs.YtpibhiacmceekaaW.PrintMore Go.Proofs.Ytpibhiacmceekaa.Bx Go.Proofs.Ytpibhiacmceekaa.Nx Go.Proofs.Ytpibhiacmceekaa.L1 Go.Proofs.Ytpibhiacmceekaa.Px
def rvS (b : List Int) (a : Int) : Int × Int × Int := (bits_ReadVarint.f 10 b a).getD (0, 0, 6)
theorem rv_prog {b : List Int} (hb : ∀ x ∈ b, 0 ≤ x ∧ x ≤ 255) (hl : b.length ≤ 100000000) {a : Int} (h0 : 0 ≤ a) (h1 : a ≤ b.length) {k : Nat} (hk : 10 ≤ k) : bits_ReadVarint.f k b a = some (rvS b a) := by
  obtain ⟨n, q, e, g1, _⟩ := readVarint_both hb hl h0 h1
  unfold rvS
  rw [g1 k hk, g1 10 (Nat.le_refl _)]; rfl
theorem rv_ok {b : List Int} (hb : ∀ x ∈ b, 0 ≤ x ∧ x ≤ 255) (hl : b.length ≤ 100000000) {a : Int} (h0 : 0 ≤ a) (h1 : a ≤ b.length) (he : (rvS b a).2.2 = 0) : 0 ≤ (rvS b a).1 ∧ (rvS b a).1 < 18446744073709551616 ∧ a < (rvS b a).2.1 ∧ (rvS b a).2.1 ≤ b.length := by
  obtain ⟨n, q, e, g1, g2, g3, _⟩ := readVarint_both hb hl h0 h1
  unfold rvS at he ⊢
  rw [g1 10 (Nat.le_refl _)] at he ⊢
  exact g3 he
def putS (left : Int) : List Int → Int → List Int → Int × List Int
  | [], _, l => (0, l)
  | x :: xs, i, l => if i < left then putS left xs (i + 1) (l ++ [x]) else if x = 0 then putS left xs (i + 1) l else (8, [])
theorem put_prog (left : Int) : ∀ (u : List Int) (i : Int) (l : List Int), (∀ x ∈ u, 0 ≤ x ∧ x ≤ 9223372036854775807) → hyPut left u i l = some (putS left u i l)
  | [], _, _, _ => rfl
  | x :: xs, i, l, h => by
    have hx := h x (by simp)
    rw [hyPut, putS]
    by_cases c : i < left
    · rw [if_pos c, if_pos c, if_pos hx, put_prog left xs (i + 1) _ (fun y hy => h y (by simp [hy]))]
    · rw [if_neg c, if_neg c]
      by_cases d : x = 0
      · rw [if_pos d, if_pos d, put_prog left xs (i + 1) _ (fun y hy => h y (by simp [hy]))]
      · rw [if_neg d, if_neg d]
theorem put_bad (left : Int) : ∀ (u : List Int) (i : Int) (l : List Int), (putS left u i l).1 ≠ 0 → putS left u i l = (8, [])
  | [], _, _, h => absurd rfl h
  | x :: xs, i, l, h => by
    rw [putS] at h ⊢
    by_cases c : i < left
    · rw [if_pos c] at h ⊢; exact put_bad left xs _ _ h
    · rw [if_neg c] at h ⊢
      by_cases d : x = 0
      · rw [if_pos d] at h ⊢; exact put_bad left xs _ _ h
      · rw [if_neg d]
theorem put_len (left : Int) : ∀ (u : List Int) (i : Int) (l : List Int), (putS left u i l).1 = 0 → ((putS left u i l).2.length : Int) = l.length + max 0 (min (u.length : Int) (left - i))
  | [], i, l, _ => by simp [putS]; omega
  | x :: xs, i, l, h => by
    rw [putS] at h ⊢
    by_cases c : i < left
    · rw [if_pos c] at h ⊢
      rw [put_len left xs _ _ h]
      simp only [List.length_append, List.length_cons, List.length_nil]
      omega
    · rw [if_neg c] at h ⊢
      by_cases d : x = 0
      · rw [if_pos d] at h ⊢
        rw [put_len left xs _ _ h]
        simp only [List.length_cons]
        omega
      · rw [if_neg d] at h; exact absurd h (by decide)
theorem outF_mem {g : Nat → Int} (hg : ∀ i, g i = 0 ∨ g i = 1) (W count p : Nat) : ∀ x ∈ outF g W count p, 0 ≤ x ∧ x < 2 ^ W := by
  intro x hx
  unfold outF at hx
  obtain ⟨i, _, rfl⟩ := List.mem_map.1 hx
  have h := valF_range hg (min W (p - i * W)) (i * W)
  have h2 : (2 : Int) ^ (min W (p - i * W)) ≤ 2 ^ W := by
    have h1 := Nat.pow_le_pow_right (n := 2) (by decide) (Nat.min_le_left W (p - i * W))
    have e : ((2 ^ W : Nat) : Int) = (2 : Int) ^ W := by simp
    have e2 : ((2 ^ (min W (p - i * W)) : Nat) : Int) = (2 : Int) ^ (min W (p - i * W)) := by simp
    rw [← e, ← e2]
    exact Int.ofNat_le.2 h1
  omega
theorem unpack_whole {b : List Int} {W n : Nat} (hW : W ≤ 32) (hn : 8 * n ≤ 100000) (hl : b.length = n * W) :
    ∃ u, UnpackR b (W : Int) ((8 * n : Nat) : Int) = (u, 0) ∧ u.length = 8 * n ∧ ∀ x ∈ u, 0 ≤ x ∧ x < 2 ^ W := by
  have hq : n * W ≤ 12500 * 32 := Nat.mul_le_mul (by omega) hW
  have h8 : (8 * n) * W = 8 * (n * W) := Nat.mul_assoc 8 n W
  have hc : (((8 * n : Nat) : Int)) * (W : Int) = ((8 * (n * W) : Nat) : Int) := by rw [← h8]; exact (Int.natCast_mul _ _).symm
  refine ⟨outF (bt b) W (8 * n) ((8 * n) * W), ?_, outF_length _ _ _ _, outF_mem (bt_range b) _ _ _⟩
  unfold UnpackR
  have hS : SizeR (W : Int) ((8 * n : Nat) : Int) = (((n * W : Nat) : Int), 0) := by
    unfold SizeR
    rw [if_neg (by omega), hc, if_neg (by omega)]
    congr 1
    omega
  rw [hS, if_pos rfl, if_neg (by omega), if_neg (by omega)]
  rw [if_pos]
  · rfl
  · intro j hj
    exfalso
    rw [show (((8 * n : Nat) : Int)).toNat = 8 * n from rfl, show ((W : Int)).toNat = W from rfl] at hj
    omega
def repS (b : List Int) (W n left : Int) (l : List Int) (a : Int) : Int × List Int × Int :=
  if n ≤ left then (if (W + 7) / 8 ≤ (b.length : Int) - a then (if (wd (ReadLittleR b a ((W + 7) / 8)).1.toNat : Int) ≤ W then (0, l ++ List.replicate n.toNat (ReadLittleR b a ((W + 7) / 8)).1, a + (W + 7) / 8) else (8, [], 0)) else (6, [], 0)) else (8, [], 0)
def pakS (b : List Int) (W n left : Int) (l : List Int) (a : Int) : Int × List Int × Int :=
  if n ≤ (left + 7) / 8 then (if n * W ≤ (b.length : Int) - a then (if (putS left (UnpackR ((b.take (a + n * W).toNat).drop a.toNat) W (8 * n)).1 0 l).1 = 0 then (0, (putS left (UnpackR ((b.take (a + n * W).toNat).drop a.toNat) W (8 * n)).1 0 l).2, a + n * W) else (8, [], 0)) else (6, [], 0)) else (8, [], 0)
theorem pow32 {W : Nat} (h : W ≤ 32) : (2 : Int) ^ W ≤ 4294967296 := by
  have h1 : 2 ^ W ≤ 2 ^ 32 := Nat.pow_le_pow_right (n := 2) (by decide) h
  have e : ((2 ^ W : Nat) : Int) = (2 : Int) ^ W := by simp
  rw [← e]
  exact Int.ofNat_le.2 h1
theorem wd_lt {x : Int} {W : Nat} (h0 : 0 ≤ x) (h : wd x.toNat ≤ W) : x < 2 ^ W := by
  have := (wd_le W x.toNat).1 h
  have e : ((2 ^ W : Nat) : Int) = (2 : Int) ^ W := by simp
  omega
theorem readLittle_nonneg {b : List Int} (hb : ∀ x ∈ b, 0 ≤ x ∧ x ≤ 255) (a m : Int) : 0 ≤ (ReadLittleR b a m).1 := by
  unfold ReadLittleR
  split
  · simp
  · split
    · simp
    · exact leS_nonneg _ (fun x hx => hb x (win_mem hx))
theorem readLittle_u64 {b : List Int} (hb : ∀ x ∈ b, 0 ≤ x ∧ x ≤ 255) (a m : Int) : (ReadLittleR b a m).1 ≤ 18446744073709551615 := by
  unfold ReadLittleR
  split
  · simp
  · split
    · simp
    · rename_i h1 h2
      have := leS_win_lt hb (a := a.toNat) (m := m.toNat) (by omega)
      have h8 := pow256_le (i := m.toNat) (j := 8) (by omega)
      have h88 : (256 : Int) ^ 8 = 18446744073709551616 := by decide
      simp only
      omega
theorem rep_prog {b : List Int} (hb : ∀ x ∈ b, 0 ≤ x ∧ x ≤ 255) (hl : b.length ≤ 1048576) {k W : Nat} (hk : 65 ≤ k) (hW : W ≤ 32) {n left a : Int} {l : List Int} (ha : 0 ≤ a) (ha1 : a ≤ b.length) : hyRep k b (W : Int) n left l a = some (repS b (W : Int) n left l a) := by
  unfold hyRep repS
  by_cases c : n ≤ left
  · rw [if_pos c, if_pos c]
    by_cases d : ((W : Int) + 7) / 8 ≤ (b.length : Int) - a
    · have h0 := readLittle_nonneg hb a (((W : Int) + 7) / 8)
      have h1 := readLittle_u64 hb a (((W : Int) + 7) / 8)
      rw [if_pos d, if_pos d, readLittle (by omega) hb (by omega) (by omega), Option.bind_some, width (by omega) h0 h1, Option.bind_some]
      by_cases e : (wd (ReadLittleR b a (((W : Int) + 7) / 8)).1.toNat : Int) ≤ (W : Int)
      · have := wd_lt h0 (W := W) (by omega)
        have := pow32 hW
        rw [if_pos e, if_pos e, if_pos ⟨h0, by omega⟩]
      · rw [if_neg e, if_neg e]
    · rw [if_neg d, if_neg d]
  · rw [if_neg c, if_neg c]
theorem mid_len {b : List Int} {lo hi : Nat} (h1 : lo ≤ hi) (h2 : hi ≤ b.length) : ((b.take hi).drop lo).length = hi - lo := by rw [List.length_drop, List.length_take]; omega
theorem mid_mem {b : List Int} {lo hi : Nat} {x : Int} (h : x ∈ (b.take hi).drop lo) : x ∈ b := List.mem_of_mem_take (List.mem_of_mem_drop h)
theorem pak_nums {b : List Int} {W n a : Nat} (hW : W ≤ 32) (hn : 8 * n ≤ 100000) (ha : a + n * W ≤ b.length) :
    ∃ u, UnpackR ((b.take (((a : Int) + (n : Int) * (W : Int)).toNat)).drop ((a : Int)).toNat) (W : Int) (8 * (n : Int)) = (u, 0) ∧ u.length = 8 * n ∧ ∀ x ∈ u, 0 ≤ x ∧ x < 2 ^ W := by
  have hm : ((n : Int) * (W : Int)) = ((n * W : Nat) : Int) := (Int.natCast_mul _ _).symm
  rw [hm, show ((a : Int) + ((n * W : Nat) : Int)).toNat = a + n * W by omega, show ((a : Int)).toNat = a from rfl]
  have := unpack_whole (b := (b.take (a + n * W)).drop a) hW hn (by rw [mid_len (by omega) ha]; omega)
  exact this
theorem pak_prog {b : List Int} (hb : ∀ x ∈ b, 0 ≤ x ∧ x ≤ 255) (hl : b.length ≤ 1048576) {k W : Nat} (hk : 1 ≤ k) (hW : W ≤ 32) {n left a : Nat} {l : List Int} (hleft : left ≤ 65536) (ha1 : a ≤ b.length) :
    hyPack k b (W : Int) (n : Int) (left : Int) l (a : Int) = some (pakS b (W : Int) (n : Int) (left : Int) l (a : Int)) := by
  unfold hyPack pakS
  by_cases c : (n : Int) ≤ ((left : Int) + 7) / 8
  · rw [if_pos c, if_pos c]
    by_cases d : (n : Int) * (W : Int) ≤ (b.length : Int) - (a : Int)
    · have hm : ((n : Int) * (W : Int)) = ((n * W : Nat) : Int) := (Int.natCast_mul _ _).symm
      have hfit : a + n * W ≤ b.length := by rw [hm] at d; omega
      obtain ⟨u, hu, hul, hur⟩ := pak_nums (b := b) (W := W) (n := n) (a := a) hW (by omega) hfit
      have hU : bits_Unpack.f k ((b.take (((a : Int) + (n : Int) * (W : Int)).toNat)).drop ((a : Int)).toNat) (W : Int) (8 * (n : Int)) = some (u, 0) := by
        rw [unpack hk (fun x h => hb x (mid_mem h)) (by rw [List.length_drop, List.length_take]; omega), hu]
      rw [if_pos d, if_pos d, hU, hu, Option.bind_some, if_pos rfl, put_prog _ _ _ _ (fun x h => by have := hur x h; have := pow32 hW; omega), Option.bind_some]
      by_cases e : (putS (left : Int) u 0 l).1 = 0
      · rw [if_pos e, if_pos e]
      · have := put_bad _ _ _ _ e
        rw [if_neg e, if_neg e, this]
    · rw [if_neg d, if_neg d]
  · rw [if_neg c, if_neg c]
def oneS (b : List Int) (W count : Int) (l : List Int) (a : Int) : Int × List Int × Int :=
  if (rvS b a).1 % 2 = 0 then repS b W ((rvS b a).1 / 2) (count - l.length) l (rvS b a).2.1 else pakS b W ((rvS b a).1 / 2) (count - l.length) l (rvS b a).2.1
def partS (b : List Int) (W count : Int) : Nat → List Int → Int → Int × List Int × Int
  | 0, l, a => (0, l, a)
  | f + 1, l, a =>
    if (l.length : Int) < count then
      (if (rvS b a).2.2 = 0 then (if 2 ≤ (rvS b a).1 ∧ (rvS b a).1 ≤ 4194304 then
        (if (oneS b W count l a).1 = 0 then partS b W count f (oneS b W count l a).2.1 (oneS b W count l a).2.2 else ((oneS b W count l a).1, [], 0)) else (8, [], 0)) else ((rvS b a).2.2, [], 0))
    else (0, l, a)
theorem one_ok {b : List Int} (hb : ∀ x ∈ b, 0 ≤ x ∧ x ≤ 255) (hl : b.length ≤ 1048576) {W : Nat} (hW : W ≤ 32) {count a : Int} {l : List Int} (hc : count ≤ 65536) (hlc : (l.length : Int) < count) (ha : 0 ≤ a) (ha1 : a ≤ b.length)
    (he : (rvS b a).2.2 = 0) (h2 : 2 ≤ (rvS b a).1) (h4 : (rvS b a).1 ≤ 4194304) (h : (oneS b (W : Int) count l a).1 = 0) :
    l.length < (oneS b (W : Int) count l a).2.1.length ∧ ((oneS b (W : Int) count l a).2.1.length : Int) ≤ count ∧ 0 ≤ (oneS b (W : Int) count l a).2.2 ∧ (oneS b (W : Int) count l a).2.2 ≤ b.length := by
  obtain ⟨q1, q2, q3, q4⟩ := rv_ok hb (by omega) ha ha1 he
  unfold oneS at h ⊢
  by_cases c : (rvS b a).1 % 2 = 0
  · rw [if_pos c] at h ⊢
    unfold repS at h ⊢
    by_cases c1 : (rvS b a).1 / 2 ≤ count - (l.length : Int)
    · rw [if_pos c1] at h ⊢
      by_cases c2 : ((W : Int) + 7) / 8 ≤ (b.length : Int) - (rvS b a).2.1
      · rw [if_pos c2] at h ⊢
        by_cases c3 : (wd (ReadLittleR b (rvS b a).2.1 (((W : Int) + 7) / 8)).1.toNat : Int) ≤ (W : Int)
        · rw [if_pos c3]
          simp only [List.length_append, List.length_replicate]
          omega
        · rw [if_neg c3] at h; exact absurd h (by simp)
      · rw [if_neg c2] at h; exact absurd h (by simp)
    · rw [if_neg c1] at h; exact absurd h (by simp)
  · rw [if_neg c] at h ⊢
    obtain ⟨n, hn⟩ := Int.eq_ofNat_of_zero_le (show 0 ≤ (rvS b a).1 / 2 by omega)
    obtain ⟨q, hq⟩ := Int.eq_ofNat_of_zero_le (show 0 ≤ (rvS b a).2.1 by omega)
    rw [hn, hq] at h ⊢
    unfold pakS at h ⊢
    by_cases c1 : (n : Int) ≤ (count - (l.length : Int) + 7) / 8
    · rw [if_pos c1] at h ⊢
      by_cases c2 : (n : Int) * (W : Int) ≤ (b.length : Int) - (q : Int)
      · rw [if_pos c2] at h ⊢
        have hm : ((n : Int) * (W : Int)) = ((n * W : Nat) : Int) := (Int.natCast_mul _ _).symm
        obtain ⟨u, hu, hul, hur⟩ := pak_nums (b := b) (W := W) (n := n) (a := q) hW (by omega) (by rw [hm] at c2; omega)
        rw [hu] at h ⊢
        by_cases c3 : (putS (count - (l.length : Int)) u 0 l).1 = 0
        · have hpl := put_len _ _ _ _ c3
          rw [if_pos c3]
          simp only
          rw [hm] at c2 ⊢
          refine ⟨?_, ?_, ?_, ?_⟩ <;> omega
        · rw [if_neg c3] at h; exact absurd h (by simp)
      · rw [if_neg c2] at h; exact absurd h (by simp)
    · rw [if_neg c1] at h; exact absurd h (by simp)
theorem one_prog {b : List Int} (hb : ∀ x ∈ b, 0 ≤ x ∧ x ≤ 255) (hl : b.length ≤ 1048576) {W k : Nat} (hk : 65 ≤ k) (hW : W ≤ 32) {count a : Int} {l : List Int} (hc : count ≤ 65536) (hlc : (l.length : Int) < count) (ha : 0 ≤ a) (ha1 : a ≤ b.length)
    (he : (rvS b a).2.2 = 0) (h2 : 2 ≤ (rvS b a).1) : (if (rvS b a).1 % 2 = 0 then hyRep k b (W : Int) ((rvS b a).1 / 2) (count - l.length) l (rvS b a).2.1 else hyPack k b (W : Int) ((rvS b a).1 / 2) (count - l.length) l (rvS b a).2.1) = some (oneS b (W : Int) count l a) := by
  obtain ⟨q1, q2, q3, q4⟩ := rv_ok hb (by omega) ha ha1 he
  unfold oneS
  by_cases c : (rvS b a).1 % 2 = 0
  · rw [if_pos c, if_pos c]
    exact rep_prog hb hl hk hW (by omega) q4
  · rw [if_neg c, if_neg c]
    obtain ⟨n, hn⟩ := Int.eq_ofNat_of_zero_le (show 0 ≤ (rvS b a).1 / 2 by omega)
    obtain ⟨q, hq⟩ := Int.eq_ofNat_of_zero_le (show 0 ≤ (rvS b a).2.1 by omega)
    obtain ⟨left, hlf⟩ := Int.eq_ofNat_of_zero_le (show 0 ≤ count - (l.length : Int) by omega)
    rw [hn, hq, hlf]
    exact pak_prog hb hl (by omega) hW (by omega) (by omega)
theorem all_prog {b : List Int} (hb : ∀ x ∈ b, 0 ≤ x ∧ x ≤ 255) (hl : b.length ≤ 1048576) {W : Nat} (hW : W ≤ 32) {count : Int} (hc : count ≤ 65536) : ∀ (f : Nat) (l : List Int) (a : Int) (k : Nat), count ≤ l.length + f → 0 ≤ a → a ≤ b.length → f + 70 ≤ k →
    hyAll k b (W : Int) count l a = some (partS b (W : Int) count f l a)
  | 0, l, a, k, hf, ha, ha1, hk => by
    obtain ⟨k, rfl⟩ : ∃ j, k = j + 1 := ⟨k - 1, by omega⟩
    rw [hyAll, if_neg (by omega)]; rfl
  | f + 1, l, a, k, hf, ha, ha1, hk => by
    obtain ⟨k, rfl⟩ : ∃ j, k = j + 1 := ⟨k - 1, by omega⟩
    rw [hyAll, partS]
    by_cases c : (l.length : Int) < count
    · rw [if_pos c, if_pos c, rv_prog hb (by omega) ha ha1 (by omega), Option.bind_some]
      by_cases e : (rvS b a).2.2 = 0
      · obtain ⟨q1, q2, q3, q4⟩ := rv_ok hb (by omega) ha ha1 e
        rw [if_pos e, if_pos e]
        by_cases d : 2 ≤ (rvS b a).1 ∧ (rvS b a).1 ≤ 4194304
        · rw [if_pos d, if_pos d, if_pos ⟨by omega, q4⟩, one_prog hb hl (by omega) hW hc c ha ha1 e d.1, Option.bind_some]
          by_cases g : (oneS b (W : Int) count l a).1 = 0
          · obtain ⟨p1, p2, p3, p4⟩ := one_ok hb hl hW hc c ha ha1 e d.1 d.2 g
            rw [if_pos g, if_pos g, if_pos ⟨p1, p2, p3, p4⟩]
            exact all_prog hb hl hW hc f _ _ k (by omega) p3 p4 (by omega)
          · rw [if_neg g, if_neg g]
        · rw [if_neg d, if_neg d]
      · rw [if_neg e, if_neg e]
    · rw [if_neg c, if_neg c]
def PartR (b : List Int) (W count : Int) : Int × List Int × Int :=
  if W < 0 then (2, [], 0) else if 32 < W then (2, [], 0) else if count < 0 then (2, [], 0) else if 1048576 < (b.length : Int) then (3, [], 0) else if 65536 < count then (3, [], 0) else partS b W count count.toNat [] 0
theorem part_f {b : List Int} (hb : ∀ x ∈ b, 0 ≤ x ∧ x ≤ 255) {W count : Int} {k : Nat} (hk : 65700 ≤ k) : hyF k b W count = some (PartR b W count) := by
  unfold hyF PartR
  by_cases c1 : W < 0
  · rw [if_pos c1, if_pos c1]
  rw [if_neg c1, if_neg c1]
  by_cases c2 : 32 < W
  · rw [if_pos c2, if_pos c2]
  rw [if_neg c2, if_neg c2]
  by_cases c3 : count < 0
  · rw [if_pos c3, if_pos c3]
  rw [if_neg c3, if_neg c3]
  by_cases c4 : 1048576 < (b.length : Int)
  · rw [if_pos c4, if_pos c4]
  rw [if_neg c4, if_neg c4]
  by_cases c5 : 65536 < count
  · rw [if_pos c5, if_pos c5]
  rw [if_neg c5, if_neg c5]
  obtain ⟨V, rfl⟩ := Int.eq_ofNat_of_zero_le (show 0 ≤ W by omega)
  exact all_prog hb (by omega) (by omega) (by omega) count.toNat [] 0 k (by simp; omega) (by omega) (by omega) (by omega)
def ReadR (b : List Int) (W count : Int) : List Int × Int :=
  (if (PartR b W count).1 = 0 then (if (PartR b W count).2.2 < (b.length : Int) then [] else (PartR b W count).2.1) else [], if (PartR b W count).1 = 0 then (if (PartR b W count).2.2 < (b.length : Int) then 7 else 0) else (PartR b W count).1)
theorem part {b : List Int} (hb : ∀ x ∈ b, 0 ≤ x ∧ x ≤ 255) {W count : Int} {k : Nat} (hk : 65700 ≤ k) : hybrid_Part.f k b W count = some ((PartR b W count).2.1, (PartR b W count).2.2, (PartR b W count).1) := by
  unfold hybrid_Part.f
  rw [part_f hb hk]; rfl
theorem read {b : List Int} (hb : ∀ x ∈ b, 0 ≤ x ∧ x ≤ 255) {W count : Int} {k : Nat} (hk : 65700 ≤ k) : hybrid_Read.f k b W count = some (ReadR b W count) := by
  unfold hybrid_Read.f
  rw [part_f hb hk]; rfl
end Go.Proofs.Ytpibhiacmceekaa.L11
end

section
namespace Go.Proofs.Ytpibhiacmceekaa.L1
set_option linter.unusedVariables false
set_option linter.unusedSimpArgs false
open Go.RowKit Go.Proofs.Ytpibhiacmceekaa.X Go.Proofs.YtpibhiacmceekaaW.PrintWords Go.Proofs.YtpibhiacmceekaaW.PrintLast Go.Proofs.YtpibhiacmceekaaW.PrintMore Go.Proofs.Ytpibhiacmceekaa.Bx Go.Proofs.Ytpibhiacmceekaa.Nx Go.Proofs.Ytpibhiacmceekaa.Px
theorem valF_digits (g : Nat → Int) (X : Nat) : ∀ (d P c : Nat), (∀ t, t < d → g (P + t) = ((X / 2 ^ (c + t) % 2 : Nat) : Int)) → valF g P d = ((X / 2 ^ c % 2 ^ d : Nat) : Int)
  | 0, P, c, h => by simp [valF, Nat.mod_one]
  | d + 1, P, c, h => by
    have h0 := h 0 (by omega)
    rw [Nat.add_zero, Nat.add_zero] at h0
    have ih := valF_digits g X d (P + 1) (c + 1) (fun t ht => by
      have := h (t + 1) (by omega)
      rwa [show P + (t + 1) = P + 1 + t by omega, show c + (t + 1) = c + 1 + t by omega] at this)
    have e : X / 2 ^ c / 2 = X / 2 ^ (c + 1) := by rw [Nat.div_div_eq_div_mul, Nat.pow_succ]
    have e2 : X / 2 ^ c % 2 ^ (d + 1) = X / 2 ^ c % 2 + 2 * (X / 2 ^ (c + 1) % 2 ^ d) := by rw [Nat.pow_succ 2 d, Nat.mul_comm (2 ^ d) 2, Nat.mod_mul, e]
    rw [valF, ih, h0, e2]
    generalize X / 2 ^ c % 2 = u
    generalize X / 2 ^ (c + 1) % 2 ^ d = v
    omega
theorem bitsFrom_get (n : Int) : ∀ (d i c : Nat), c < d → (bitsFrom n i d).getD c 0 = n / 2 ^ (i + c) % 2
  | 0, _, c, h => absurd h (by omega)
  | d + 1, i, 0, h => by simp [bitsFrom]
  | d + 1, i, c + 1, h => by
    have := bitsFrom_get n d (i + 1) c (by omega)
    rw [show i + 1 + c = i + (c + 1) by omega] at this
    rw [bitsFrom, ← this]; simp
theorem allBits_get (W : Nat) : ∀ (l : List Int) (i c : Nat), i < l.length → c < W → (allBits W l).getD (i * W + c) 0 = l.getD i 0 / 2 ^ c % 2
  | [], i, c, h, _ => absurd h (by simp)
  | x :: l, 0, c, h, hc => by
    rw [allBits_cons, List.getD_eq_getElem?_getD, List.getElem?_append_left (by rw [bitsFrom_length]; omega), ← List.getD_eq_getElem?_getD, Nat.zero_mul, Nat.zero_add, bitsFrom_get x W 0 c hc, Nat.zero_add]; rfl
  | x :: l, i + 1, c, h, hc => by
    have := allBits_get W l i c (by simpa using h) hc
    rw [allBits_cons, List.getD_eq_getElem?_getD, List.getElem?_append_right (by rw [bitsFrom_length, Nat.add_mul]; omega), ← List.getD_eq_getElem?_getD, bitsFrom_length, show (i + 1) * W + c - W = i * W + c by rw [Nat.add_mul]; omega, this]; simp
theorem eight_bits {x0 x1 x2 x3 x4 x5 x6 x7 : Int} (h0 : x0 = 0 ∨ x0 = 1) (h1 : x1 = 0 ∨ x1 = 1) (h2 : x2 = 0 ∨ x2 = 1) (h3 : x3 = 0 ∨ x3 = 1) (h4 : x4 = 0 ∨ x4 = 1) (h5 : x5 = 0 ∨ x5 = 1) (h6 : x6 = 0 ∨ x6 = 1) (h7 : x7 = 0 ∨ x7 = 1) :
    (x0 + 2 * x1 + 4 * x2 + 8 * x3 + 16 * x4 + 32 * x5 + 64 * x6 + 128 * x7) / 1 % 2 = x0 ∧ (x0 + 2 * x1 + 4 * x2 + 8 * x3 + 16 * x4 + 32 * x5 + 64 * x6 + 128 * x7) / 2 % 2 = x1 ∧ (x0 + 2 * x1 + 4 * x2 + 8 * x3 + 16 * x4 + 32 * x5 + 64 * x6 + 128 * x7) / 4 % 2 = x2 ∧ (x0 + 2 * x1 + 4 * x2 + 8 * x3 + 16 * x4 + 32 * x5 + 64 * x6 + 128 * x7) / 8 % 2 = x3 ∧
    (x0 + 2 * x1 + 4 * x2 + 8 * x3 + 16 * x4 + 32 * x5 + 64 * x6 + 128 * x7) / 16 % 2 = x4 ∧ (x0 + 2 * x1 + 4 * x2 + 8 * x3 + 16 * x4 + 32 * x5 + 64 * x6 + 128 * x7) / 32 % 2 = x5 ∧ (x0 + 2 * x1 + 4 * x2 + 8 * x3 + 16 * x4 + 32 * x5 + 64 * x6 + 128 * x7) / 64 % 2 = x6 ∧ (x0 + 2 * x1 + 4 * x2 + 8 * x3 + 16 * x4 + 32 * x5 + 64 * x6 + 128 * x7) / 128 % 2 = x7 := by
  have a0 : 0 ≤ x0 ∧ x0 ≤ 1 := by omega
  have a1 : 0 ≤ x1 ∧ x1 ≤ 1 := by omega
  have a2 : 0 ≤ x2 ∧ x2 ≤ 1 := by omega
  have a3 : 0 ≤ x3 ∧ x3 ≤ 1 := by omega
  have a4 : 0 ≤ x4 ∧ x4 ≤ 1 := by omega
  have a5 : 0 ≤ x5 ∧ x5 ≤ 1 := by omega
  have a6 : 0 ≤ x6 ∧ x6 ≤ 1 := by omega
  have a7 : 0 ≤ x7 ∧ x7 ≤ 1 := by omega
  clear h0 h1 h2 h3 h4 h5 h6 h7
  refine ⟨by omega, by omega, by omega, by omega, by omega, by omega, by omega, by omega⟩
theorem byteAt_bit {B : List Int} (hB : ∀ b ∈ B, b = 0 ∨ b = 1) (j t : Nat) (ht : t < 8) : byteAt B j / 2 ^ t % 2 = B.getD (8 * j + t) 0 := by
  have h := eight_bits (getD_bit hB (8 * j)) (getD_bit hB (8 * j + 1)) (getD_bit hB (8 * j + 2)) (getD_bit hB (8 * j + 3)) (getD_bit hB (8 * j + 4)) (getD_bit hB (8 * j + 5)) (getD_bit hB (8 * j + 6)) (getD_bit hB (8 * j + 7))
  have : t = 0 ∨ t = 1 ∨ t = 2 ∨ t = 3 ∨ t = 4 ∨ t = 5 ∨ t = 6 ∨ t = 7 := by omega
  rcases this with rfl | rfl | rfl | rfl | rfl | rfl | rfl | rfl
  · exact h.1
  · exact h.2.1
  · exact h.2.2.1
  · exact h.2.2.2.1
  · exact h.2.2.2.2.1
  · exact h.2.2.2.2.2.1
  · exact h.2.2.2.2.2.2.1
  · exact h.2.2.2.2.2.2.2
theorem bt_packB {B : List Int} (hB : ∀ b ∈ B, b = 0 ∨ b = 1) (i : Nat) : bt (packB B) i = B.getD i 0 := by
  unfold bt packB
  rw [List.getD_eq_getElem?_getD, List.getElem?_map]
  by_cases h : i / 8 < (B.length + 7) / 8
  · rw [List.getElem?_range h]
    have := byteAt_bit hB (i / 8) (i % 8) (by omega)
    rw [show 8 * (i / 8) + i % 8 = i by omega] at this
    exact this
  · rw [List.getElem?_eq_none (by simp; omega), getD_out B (by omega)]
    simp
theorem packB_u8 {B : List Int} (hB : ∀ b ∈ B, b = 0 ∨ b = 1) : ∀ x ∈ packB B, 0 ≤ x ∧ x ≤ 255 := by
  intro x hx
  obtain ⟨j, _, rfl⟩ := List.mem_map.1 hx
  exact byteAt_range hB j
theorem unpack_pack {w : Int} {l : List Int} (hl : ∀ x ∈ l, 0 ≤ x ∧ x ≤ 18446744073709551615) (h : (PackR w l).2 = 0) : UnpackR (PackR w l).1 w (l.length : Int) = (l, 0) ∧ (∀ x ∈ (PackR w l).1, 0 ≤ x ∧ x ≤ 255) ∧ (PackR w l).1.length ≤ 1048576 := by
  unfold PackR at h ⊢
  by_cases c0 : w < 0 ∨ w > 64
  · rw [if_pos c0] at h; simp at h
  rw [if_neg c0] at h ⊢
  by_cases c1 : ∀ x ∈ l, (wd x.toNat : Int) ≤ w
  · rw [if_pos c1] at h ⊢
    by_cases c2 : (SizeR w l.length).2 = 0
    · rw [if_pos c2] at h ⊢
      obtain ⟨h1, h2, h3, h4, h5, h6⟩ := SizeR_ok c2
      obtain ⟨W, rfl⟩ := Int.eq_ofNat_of_zero_le h1
      have hm : ((l.length * W : Nat) : Int) = (l.length : Int) * (W : Int) := Int.natCast_mul _ _
      simp only [show ((W : Int)).toNat = W from rfl]
      have hB := allBits_range W l
      have hpl : (packB (allBits W l)).length = (l.length * W + 7) / 8 := by rw [packB_length, allBits_length]
      refine ⟨?_, packB_u8 hB, by omega⟩
      unfold UnpackR
      rw [if_pos c2, if_neg (by omega), if_neg (by omega), if_pos]
      · congr 1
        simp only [show ((W : Int)).toNat = W from rfl, show ((l.length : Int)).toNat = l.length from rfl]
        apply List.ext_getElem
        · rw [outF_length]
        · intro i q1 q2
          simp only [outF, List.getElem_map, List.getElem_range]
          have hle : (i + 1) * W ≤ l.length * W := Nat.mul_le_mul_right _ q2
          rw [Nat.add_mul] at hle
          rw [show min W (l.length * W - i * W) = W by omega]
          have hx := hl _ (List.getElem_mem q2)
          obtain ⟨X, hX⟩ := Int.eq_ofNat_of_zero_le hx.1
          have hwd := c1 _ (List.getElem_mem q2)
          rw [hX, show ((X : Int)).toNat = X from rfl] at hwd
          have hX2 := (wd_le W X).1 (by omega)
          rw [valF_digits _ X W (i * W) 0 (fun t ht => ?_), Nat.pow_zero, Nat.div_one, Nat.mod_eq_of_lt hX2, hX]
          rw [bt_packB hB, allBits_get W l i t q2 ht, List.getD_eq_getElem?_getD, List.getElem?_eq_getElem q2, Option.getD_some, hX, Nat.zero_add]
          simp
      · intro j hj
        rw [bt_packB hB, getD_out _ (by rw [allBits_length]; simp only [show ((W : Int)).toNat = W from rfl, show ((l.length : Int)).toNat = l.length from rfl]; omega)]
    · rw [if_neg c2] at h; exact absurd h c2
  · rw [if_neg c1] at h; simp at h
end Go.Proofs.Ytpibhiacmceekaa.L1
end

section
namespace Go.Proofs.Ytpibhiacmceekaa.L11
set_option linter.unusedVariables false
set_option linter.unusedSimpArgs false
open Go.RowKit Go.Proofs.Ytpibhiacmceekaa.X Go.Proofs.YtpibhiacmceekaaW.PrintWords Go.Proofs.YtpibhiacmceekaaW.PrintLast Go.Proofs.YtpibhiacmceekaaW.PrintMore Go.Proofs.Ytpibhiacmceekaa.Bx Go.Proofs.Ytpibhiacmceekaa.Nx Go.Proofs.Ytpibhiacmceekaa.L1 Go.Proofs.Ytpibhiacmceekaa.Px
theorem runOf_take (x : Int) : ∀ l : List Int, l.take (runOf x l) = List.replicate (runOf x l) x
  | [] => rfl
  | y :: l => by
    unfold runOf
    by_cases c : y = x
    · rw [if_pos c, List.take_succ_cons, runOf_take x l, List.replicate_succ, c]
    · rw [if_neg c]; rfl
theorem same_take (l : List Int) : l.take (sameN l) = List.replicate (sameN l) (l.getD 0 0) := runOf_take _ l
theorem packsN_whole (l : List Int) : ∀ (f n : Nat), n % 8 = 0 → l.length ≤ n + f → (packsN l f n = l.length ∨ packsN l f n % 8 = 0)
  | 0, n, h, _ => .inr h
  | f + 1, n, h, hf => by
    unfold packsN
    by_cases c : n < l.length
    · rw [if_pos c]
      by_cases d : l.length ≤ n + 8
      · rw [if_pos d]; exact .inl rfl
      · rw [if_neg d]
        by_cases e : 8 ≤ sameN (l.drop (n + 8))
        · rw [if_pos e]; exact .inr (by omega)
        · rw [if_neg e]; exact packsN_whole l f (n + 8) (by omega) (by omega)
    · rw [if_neg c]; exact .inr h
theorem put_take (left : Int) (z : Nat) : ∀ (u : List Int) (i : Int) (l : List Int), i + u.length ≤ left → (z = 0 ∨ i + u.length = left) → putS left (u ++ List.replicate z 0) i l = (0, l ++ u)
  | [], i, l, h, hz => by
    rw [List.nil_append, List.append_nil]
    induction z generalizing i with
    | zero => rfl
    | succ z ih =>
      have h' : i = left := by rcases hz with h | h; exact absurd h (by omega); simpa using h
      rw [List.replicate_succ, putS, if_neg (by omega), if_pos rfl]
      clear ih hz h
      have : ∀ (z : Nat) (i : Int), left ≤ i → putS left (List.replicate z 0) i l = (0, l) := by
        intro z
        induction z with
        | zero => intro i _; rfl
        | succ z ih => intro i hi; rw [List.replicate_succ, putS, if_neg (by omega), if_pos rfl]; exact ih (i + 1) (by omega)
      exact this z (i + 1) (by omega)
  | x :: u, i, l, h, hz => by
    simp only [List.length_cons] at h hz
    rw [List.cons_append, putS, if_pos (by omega), put_take left z u (i + 1) (l ++ [x]) (by omega) (by omega), List.append_assoc]; rfl
theorem leS_leb_id {m : Nat} {x : Int} (h0 : 0 ≤ x) (h1 : x < 256 ^ m) : leS (leb m x) = x := by
  rw [leS_leb, Int.emod_eq_of_lt h0 h1]
theorem bytes_pow {W : Nat} : (2 : Int) ^ W ≤ 256 ^ ((W + 7) / 8) := by
  rw [pow256]
  have h1 : 2 ^ W ≤ 2 ^ (8 * ((W + 7) / 8)) := Nat.pow_le_pow_right (n := 2) (by decide) (by omega)
  have e : ((2 ^ W : Nat) : Int) = (2 : Int) ^ W := by simp
  have e2 : ((2 ^ (8 * ((W + 7) / 8)) : Nat) : Int) = (2 : Int) ^ (8 * ((W + 7) / 8)) := by simp
  rw [← e, ← e2]
  exact Int.ofNat_le.2 h1
theorem little_bytes {W : Nat} (hW : W ≤ 32) {x : Int} (h0 : 0 ≤ x) (h : wd x.toNat ≤ W) : (LittleR x (((W + 7) / 8 : Nat) : Int)).1 = leb ((W + 7) / 8) x := by
  have h1 := wd_lt h0 h
  have h2 := bytes_pow (W := W)
  rw [pow256] at h2
  unfold LittleR
  rw [if_neg]
  · rfl
  · rintro (g | g | ⟨g1, g2⟩)
    · omega
    · omega
    · apply g2
      rw [show (8 * (((W + 7) / 8 : Nat) : Int)).toNat = 8 * ((W + 7) / 8) by omega]
      exact Int.ediv_eq_zero_of_lt h0 (by omega)
theorem pack_fine {W : Nat} (hW : W ≤ 32) {xs : List Int} (hx : okN W xs) (hl : xs.length ≤ 100000) : (PackR (W : Int) xs).2 = 0 ∧ (PackR (W : Int) xs).1.length = (xs.length * W + 7) / 8 := by
  have hm : ((xs.length : Int) * (W : Int)) = ((xs.length * W : Nat) : Int) := (Int.natCast_mul _ _).symm
  have hq : xs.length * W ≤ 100000 * 32 := Nat.mul_le_mul hl hW
  have hS : SizeR (W : Int) (xs.length : Int) = ((((xs.length * W + 7) / 8 : Nat) : Int), 0) := by
    unfold SizeR
    rw [if_neg (by omega), hm, if_neg (by omega)]
    congr 1
  unfold PackR
  rw [if_neg (by omega), if_pos (fun x h => by have := (hx x h).2; omega), hS, if_pos rfl]
  exact ⟨rfl, by simp only [packB_length, allBits_length, show ((W : Int)).toNat = W from rfl]⟩
theorem fill_ok {W : Nat} {xs : List Int} (M : Nat) (h : okN W xs) : okN W (fillN xs M) := by
  intro x hx
  unfold fillN at hx
  rcases List.mem_append.1 hx with hx | hx
  · exact h x hx
  · rw [(List.mem_replicate.1 hx).2]
    exact ⟨by omega, by rw [show ((0 : Int)).toNat = 0 from rfl, wd_zero]; omega⟩
theorem okN_take {W : Nat} {l : List Int} (n : Nat) (h : okN W l) : okN W (l.take n) := fun x hx => h x (List.mem_of_mem_take hx)
theorem okN_dropn {W : Nat} {l : List Int} (n : Nat) (h : okN W l) : okN W (l.drop n) := fun x hx => h x (List.mem_of_mem_drop hx)
theorem okN_u64 {W : Nat} (hW : W ≤ 32) {l : List Int} (h : okN W l) : ∀ x ∈ l, 0 ≤ x ∧ x ≤ 18446744073709551615 := fun x hx => by
  have h1 := h x hx
  have h2 := wd_lt h1.1 h1.2
  have h3 := pow32 hW
  exact ⟨h1.1, by omega⟩
theorem rvS_vb {pre tl : List Int} {n : Nat} (hn : n < 18446744073709551616) : rvS (pre ++ (vb n ++ tl)) (pre.length : Int) = ((n : Int), (pre.length : Int) + (vb n).length, 0) := by
  unfold rvS
  rw [readVarint_back (Nat.le_refl _) hn]; rfl
theorem take_drop_mid {pre m tl : List Int} : ((pre ++ (m ++ tl)).take (pre.length + m.length)).drop pre.length = m := by
  rw [← List.append_assoc, List.take_append_of_le_length (by simp), List.take_of_length_le (by simp), List.drop_left]
theorem one_run {W : Nat} (hW : W ≤ 32) {pre tl s l0 : List Int} (hs : s.length ≤ 100000) (hs0 : 0 < s.length) (hok : okN W s) (d : 8 ≤ sameN s) :
    (rvS (pre ++ (runS W s ++ tl)) (pre.length : Int)).2.2 = 0 ∧ 2 ≤ (rvS (pre ++ (runS W s ++ tl)) (pre.length : Int)).1 ∧ (rvS (pre ++ (runS W s ++ tl)) (pre.length : Int)).1 ≤ 4194304 ∧
    oneS (pre ++ (runS W s ++ tl)) (W : Int) ((l0.length : Int) + s.length) l0 (pre.length : Int) = (0, l0 ++ s.take (sameN s), (pre.length : Int) + (runS W s).length) := by
  have hn := sameN_le s
  obtain ⟨x0, hx0⟩ : ∃ x, x = s.getD 0 0 := ⟨_, rfl⟩
  have hx := hok x0 (by rw [hx0, List.getD_eq_getElem?_getD, List.getElem?_eq_getElem hs0]; exact List.getElem_mem hs0)
  have hL := little_bytes hW hx.1 hx.2
  have hr : runS W s = vb (2 * sameN s) ++ leb ((W + 7) / 8) x0 := by unfold runS; rw [← hx0, hL]
  have hv := rvS_vb (pre := pre) (tl := leb ((W + 7) / 8) x0 ++ tl) (n := 2 * sameN s) (by omega)
  rw [hr, List.append_assoc (vb _)]
  refine ⟨by rw [hv], by rw [hv]; show (2 : Int) ≤ ((2 * sameN s : Nat) : Int); omega, by rw [hv]; show ((2 * sameN s : Nat) : Int) ≤ 4194304; omega, ?_⟩
  unfold oneS
  rw [hv]
  simp only
  rw [if_pos (by omega)]
  unfold repS
  have hlen : ((pre ++ (vb (2 * sameN s) ++ (leb ((W + 7) / 8) x0 ++ tl))).length : Int) = pre.length + (vb (2 * sameN s)).length + ((W + 7) / 8 : Nat) + tl.length := by
    simp only [List.length_append, leb_length]; omega
  have hread : (ReadLittleR (pre ++ (vb (2 * sameN s) ++ (leb ((W + 7) / 8) x0 ++ tl))) ((pre.length : Int) + (vb (2 * sameN s)).length) (((W : Int) + 7) / 8)).1 = x0 := by
    unfold ReadLittleR
    rw [if_neg (by rw [hlen]; omega), if_neg (by rw [hlen]; omega)]
    simp only
    have hwin : win (pre ++ (vb (2 * sameN s) ++ (leb ((W + 7) / 8) x0 ++ tl))) ((pre.length : Int) + (vb (2 * sameN s)).length).toNat (((W : Int) + 7) / 8).toNat = leb ((W + 7) / 8) x0 := by
      unfold win
      rw [show ((pre.length : Int) + ((vb (2 * sameN s)).length : Int)).toNat = (pre ++ vb (2 * sameN s)).length by simp; omega, ← List.append_assoc, List.drop_left, show (((W : Int) + 7) / 8).toNat = (leb ((W + 7) / 8) x0).length by rw [leb_length]; omega, List.take_left]
    rw [hwin]
    have h1 := wd_lt hx.1 hx.2
    have h2 := bytes_pow (W := W)
    exact leS_leb_id hx.1 (by omega)
  rw [if_pos (by omega), if_pos (by rw [hlen]; omega), hread, if_pos (by have := hx.2; omega)]
  rw [same_take, ← hx0, show (((2 * sameN s : Nat) : Int) / 2).toNat = sameN s by omega]
  congr 2
  simp only [List.length_append, leb_length]; omega
theorem one_pack {W : Nat} (hW : W ≤ 32) {pre tl s l0 : List Int} (hs : s.length ≤ 65536) (hs0 : 0 < s.length) (hok : okN W s) {n : Nat} (hn : n = packsN s s.length 0) :
    (rvS (pre ++ (packS W n s ++ tl)) (pre.length : Int)).2.2 = 0 ∧ 2 ≤ (rvS (pre ++ (packS W n s ++ tl)) (pre.length : Int)).1 ∧ (rvS (pre ++ (packS W n s ++ tl)) (pre.length : Int)).1 ≤ 4194304 ∧
    oneS (pre ++ (packS W n s ++ tl)) (W : Int) ((l0.length : Int) + s.length) l0 (pre.length : Int) = (0, l0 ++ s.take n, (pre.length : Int) + (packS W n s).length) := by
  have hn1 : 1 ≤ n := by rw [hn]; exact packsN_pos hs0
  have hn2 : n ≤ s.length := by rw [hn]; exact packsN_le s s.length 0 (by omega)
  have hwhole : n = s.length ∨ n % 8 = 0 := by rw [hn]; exact packsN_whole s s.length 0 (by omega) (by omega)
  clear hn
  have htl : (s.take n).length = n := by rw [List.length_take]; omega
  have hfl : (fillN (s.take n) ((n + 7) / 8 * 8)).length = (n + 7) / 8 * 8 := fill_length _ _ (by omega)
  have hfok := fill_ok ((n + 7) / 8 * 8) (okN_take n hok)
  obtain ⟨hp0, hp1⟩ := pack_fine hW hfok (by omega)
  obtain ⟨hu, _, _⟩ := unpack_pack (okN_u64 hW hfok) hp0
  obtain ⟨P, hP⟩ : ∃ P, P = (PackR (W : Int) (fillN (s.take n) ((n + 7) / 8 * 8))).1 := ⟨_, rfl⟩
  obtain ⟨g, hg⟩ : ∃ g, g = (n + 7) / 8 := ⟨_, rfl⟩
  have hr : packS W n s = vb (g * 2 + 1) ++ P := by unfold packS; rw [hP, hg]
  rw [← hP] at hu hp1
  rw [hfl, ← hg] at hu hp1
  have hgW : (g * 8 * W + 7) / 8 = g * W := by rw [show g * 8 * W = 8 * (g * W) by rw [Nat.mul_comm g 8, Nat.mul_assoc]]; omega
  rw [hgW] at hp1
  have hv := rvS_vb (pre := pre) (tl := P ++ tl) (n := g * 2 + 1) (by omega)
  have hmul : ((g : Int) * (W : Int)) = ((g * W : Nat) : Int) := (Int.natCast_mul _ _).symm
  rw [hr, List.append_assoc (vb _)]
  refine ⟨by rw [hv], by rw [hv]; show (2 : Int) ≤ ((g * 2 + 1 : Nat) : Int); omega, by rw [hv]; show ((g * 2 + 1 : Nat) : Int) ≤ 4194304; omega, ?_⟩
  unfold oneS
  rw [hv]
  simp only
  rw [if_neg (by omega), show (((g * 2 + 1 : Nat) : Int) / 2) = (g : Int) by omega]
  unfold pakS
  rw [hmul]
  have hlen : ((pre ++ (vb (g * 2 + 1) ++ (P ++ tl))).length : Int) = pre.length + (vb (g * 2 + 1)).length + (g * W : Nat) + tl.length := by
    simp only [List.length_append, hp1]; omega
  have hmid : ((pre ++ (vb (g * 2 + 1) ++ (P ++ tl))).take ((pre.length : Int) + (vb (g * 2 + 1)).length + ((g * W : Nat) : Int)).toNat).drop ((pre.length : Int) + (vb (g * 2 + 1)).length).toNat = P := by
    have := take_drop_mid (pre := pre ++ vb (g * 2 + 1)) (m := P) (tl := tl)
    rw [List.append_assoc, List.length_append, hp1] at this
    rw [show ((pre.length : Int) + (vb (g * 2 + 1)).length + ((g * W : Nat) : Int)).toNat = pre.length + (vb (g * 2 + 1)).length + g * W by omega, show ((pre.length : Int) + (vb (g * 2 + 1)).length).toNat = pre.length + (vb (g * 2 + 1)).length by omega]
    exact this
  have hput : putS ((l0.length : Int) + s.length - l0.length) (fillN (s.take n) (g * 8)) 0 l0 = (0, l0 ++ s.take n) := by
    unfold fillN
    exact put_take _ _ _ _ _ (by rw [htl]; omega) (by rw [htl]; omega)
  rw [if_pos (by omega), if_pos (by rw [hlen]; omega), hmid, show (8 : Int) * (g : Int) = ((g * 8 : Nat) : Int) by omega, hu]
  simp only
  rw [hput]
  simp only [if_true]
  congr 2
  simp only [List.length_append, hp1]; omega
theorem part_told {W : Nat} (hW : W ≤ 32) (b : List Int) : ∀ (f g : Nat) (pre s tl l0 : List Int), b = pre ++ (toldS W f s ++ tl) → s.length ≤ f → s.length ≤ g → s.length ≤ 65536 → okN W s →
    partS b (W : Int) ((l0.length : Int) + s.length) g l0 (pre.length : Int) = (0, l0 ++ s, (pre.length : Int) + (toldS W f s).length)
  | f, 0, pre, s, tl, l0, hb, hf, hg, hs, hok => by
    have : s = [] := List.eq_nil_of_length_eq_zero (by omega)
    subst this
    have ht : toldS W f [] = [] := by cases f <;> simp [toldS]
    rw [partS, ht]; simp
  | 0, g + 1, pre, s, tl, l0, hb, hf, hg, hs, hok => by
    have : s = [] := List.eq_nil_of_length_eq_zero (by omega)
    subst this
    rw [partS, if_neg (by simp)]; simp [toldS]
  | f + 1, g + 1, pre, s, tl, l0, hb, hf, hg, hs, hok => by
    by_cases c : s.length = 0
    · have : s = [] := List.eq_nil_of_length_eq_zero c
      subst this
      have ht : toldS W (f + 1) [] = [] := by simp [toldS]
      rw [partS, if_neg (by simp), ht]; simp
    rw [partS, if_pos (by omega)]
    by_cases d : 8 ≤ sameN s
    · have hn := sameN_le s
      have ht : toldS W (f + 1) s = runS W s ++ toldS W f (s.drop (sameN s)) := by rw [toldS, if_neg c, if_pos d]; rfl
      rw [ht] at hb ⊢
      rw [List.append_assoc] at hb
      obtain ⟨h1, h2, h3, h4⟩ := one_run hW (pre := pre) (tl := toldS W f (s.drop (sameN s)) ++ tl) (l0 := l0) (by omega) (by omega) hok d
      rw [← hb] at h1 h2 h3 h4
      rw [if_pos h1, if_pos ⟨h2, h3⟩, h4]
      simp only [if_true]
      have ih := part_told hW b f g (pre ++ runS W s) (s.drop (sameN s)) tl (l0 ++ s.take (sameN s)) (by rw [hb, List.append_assoc]) (by rw [List.length_drop]; omega) (by rw [List.length_drop]; omega) (by rw [List.length_drop]; omega) (okN_dropn _ hok)
      have e1 : (((l0 ++ s.take (sameN s)).length : Int) + (s.drop (sameN s)).length) = (l0.length : Int) + s.length := by rw [List.length_append, List.length_take, List.length_drop]; omega
      rw [e1, List.length_append, Int.natCast_add, List.append_assoc, List.take_append_drop] at ih
      rw [ih, List.length_append, Int.natCast_add, Int.add_assoc]
    · obtain ⟨n, hn⟩ : ∃ n, n = packsN s s.length 0 := ⟨_, rfl⟩
      have hn1 : 1 ≤ n := by rw [hn]; exact packsN_pos (by omega)
      have hn2 : n ≤ s.length := by rw [hn]; exact packsN_le s s.length 0 (by omega)
      have ht : toldS W (f + 1) s = packS W n s ++ toldS W f (s.drop n) := by rw [toldS, if_neg c, if_neg d, ← hn]; rfl
      rw [ht] at hb ⊢
      rw [List.append_assoc] at hb
      obtain ⟨h1, h2, h3, h4⟩ := one_pack hW (pre := pre) (tl := toldS W f (s.drop n) ++ tl) (l0 := l0) hs (by omega) hok hn
      rw [← hb] at h1 h2 h3 h4
      rw [if_pos h1, if_pos ⟨h2, h3⟩, h4]
      simp only [if_true]
      have ih := part_told hW b f g (pre ++ packS W n s) (s.drop n) tl (l0 ++ s.take n) (by rw [hb, List.append_assoc]) (by rw [List.length_drop]; omega) (by rw [List.length_drop]; omega) (by rw [List.length_drop]; omega) (okN_dropn _ hok)
      have e1 : (((l0 ++ s.take n).length : Int) + (s.drop n).length) = (l0.length : Int) + s.length := by rw [List.length_append, List.length_take, List.length_drop]; omega
      rw [e1, List.length_append, Int.natCast_add, List.append_assoc, List.take_append_drop] at ih
      rw [ih, List.length_append, Int.natCast_add, Int.add_assoc]
theorem told_short {W : Nat} (hW : W ≤ 32) : ∀ (f : Nat) (s : List Int), s.length ≤ 65536 → okN W s → (toldS W f s).length ≤ 50 * s.length
  | 0, s, _, _ => by simp [toldS]
  | f + 1, s, hs, hok => by
    by_cases c : s.length = 0
    · rw [toldS, if_pos c]; simp
    by_cases d : 8 ≤ sameN s
    · have hn := sameN_le s
      have ht : toldS W (f + 1) s = runS W s ++ toldS W f (s.drop (sameN s)) := by rw [toldS, if_neg c, if_pos d]; rfl
      have hr := runS_len W s (by omega)
      have hd : (s.drop (sameN s)).length = s.length - sameN s := List.length_drop
      have ih := told_short hW f (s.drop (sameN s)) (by omega) (okN_dropn _ hok)
      rw [ht, List.length_append]; omega
    · obtain ⟨n, hn⟩ : ∃ n, n = packsN s s.length 0 := ⟨_, rfl⟩
      have hn1 : 1 ≤ n := by rw [hn]; exact packsN_pos (by omega)
      have hn2 : n ≤ s.length := by rw [hn]; exact packsN_le s s.length 0 (by omega)
      have ht : toldS W (f + 1) s = packS W n s ++ toldS W f (s.drop n) := by rw [toldS, if_neg c, if_neg d, ← hn]; rfl
      have htl : (s.take n).length = n := by rw [List.length_take]; omega
      have hfl : (fillN (s.take n) ((n + 7) / 8 * 8)).length = (n + 7) / 8 * 8 := fill_length _ _ (by omega)
      obtain ⟨_, hp1⟩ := pack_fine hW (fill_ok ((n + 7) / 8 * 8) (okN_take n hok)) (by omega)
      have hv := vb_length64 (n := (n + 7) / 8 * 2 + 1) (by omega)
      have hq : (n + 7) / 8 * 8 * W ≤ (n + 7) * 32 := Nat.mul_le_mul (by omega) hW
      have hr : (packS W n s).length ≤ 10 + ((n + 7) * 32 + 7) / 8 := by
        unfold packS
        rw [List.length_append, hp1, hfl]; omega
      have hd : (s.drop n).length = s.length - n := List.length_drop
      have ih := told_short hW f (s.drop n) (by omega) (okN_dropn _ hok)
      rw [ht, List.length_append]; omega
end Go.Proofs.Ytpibhiacmceekaa.L11
end

section
namespace Go.Proofs.Ytpibhiacmceekaa.L11
set_option linter.unusedVariables false
set_option linter.unusedSimpArgs false
open Go.RowKit Go.Proofs.Ytpibhiacmceekaa.X Go.Proofs.YtpibhiacmceekaaW.PrintWords Go.Proofs.YtpibhiacmceekaaW.PrintLast Go.Proofs.YtpibhiacmceekaaW.PrintMore Go.Proofs.Ytpibhiacmceekaa.Bx Go.Proofs.Ytpibhiacmceekaa.Nx Go.Proofs.Ytpibhiacmceekaa.L1 Go.Proofs.Ytpibhiacmceekaa.Px
theorem part_back {W : Nat} (hW : W ≤ 32) {l tl : List Int} (hl : l.length ≤ 10000) (hok : okN W l) (htl : tl.length ≤ 100000) :
    PartR (toldS W l.length l ++ tl) (W : Int) (l.length : Int) = (0, l, ((toldS W l.length l).length : Int)) := by
  have hs := told_short hW l.length l (by omega) hok
  have := part_told hW (toldS W l.length l ++ tl) l.length l.length [] l tl [] rfl (Nat.le_refl _) (Nat.le_refl _) (by omega) hok
  simp only [List.length_nil, List.nil_append] at this
  unfold PartR
  rw [if_neg (by omega), if_neg (by omega), if_neg (by omega), if_neg (by rw [List.length_append]; omega), if_neg (by omega), show ((l.length : Int)).toNat = l.length from rfl]
  rw [show (((0 : Nat) : Int) + (l.length : Int)) = (l.length : Int) by omega, show ((0 : Nat) : Int) = 0 from rfl] at this
  rw [this, Int.zero_add]
theorem read_back {W : Nat} (hW : W ≤ 32) {l : List Int} (hl : l.length ≤ 10000) (hok : okN W l) : ReadR (toldS W l.length l) (W : Int) (l.length : Int) = (l, 0) := by
  have := part_back hW hl hok (tl := []) (by simp)
  rw [List.append_nil] at this
  unfold ReadR
  rw [this]
  simp
theorem write_ok {W : Nat} (hW : W ≤ 32) {l : List Int} (hl : l.length ≤ 10000) (hok : okN W l) : WriteR (W : Int) l = (toldS W l.length l, 0) := by
  have hs := told_short hW l.length l (by omega) hok
  unfold WriteR
  rw [if_neg (by omega), show ((W : Int)).toNat = W from rfl, if_pos hok, if_neg (by omega), if_neg (by omega)]
theorem told_u8 {W : Nat} (hW : W ≤ 32) : ∀ (f : Nat) (s : List Int), s.length ≤ 65536 → okN W s → ∀ x ∈ toldS W f s, 0 ≤ x ∧ x ≤ 255
  | 0, s, _, _ => fun x h => by cases h
  | f + 1, s, hs, hok => by
    by_cases c : s.length = 0
    · rw [toldS, if_pos c]; intro x h; cases h
    by_cases d : 8 ≤ sameN s
    · have ht : toldS W (f + 1) s = runS W s ++ toldS W f (s.drop (sameN s)) := by rw [toldS, if_neg c, if_pos d]; rfl
      have ih := told_u8 hW f (s.drop (sameN s)) (by rw [List.length_drop]; omega) (okN_dropn _ hok)
      rw [ht]
      intro x h
      rcases List.mem_append.1 h with h | h
      · unfold runS at h
        rcases List.mem_append.1 h with h | h
        · exact vb_range _ x h
        · unfold LittleR at h
          split at h
          · cases h
          · exact leb_range _ _ x h
      · exact ih x h
    · obtain ⟨n, hn⟩ : ∃ n, n = packsN s s.length 0 := ⟨_, rfl⟩
      have hn1 : 1 ≤ n := by rw [hn]; exact packsN_pos (by omega)
      have hn2 : n ≤ s.length := by rw [hn]; exact packsN_le s s.length 0 (by omega)
      have ht : toldS W (f + 1) s = packS W n s ++ toldS W f (s.drop n) := by rw [toldS, if_neg c, if_neg d, ← hn]; rfl
      have ih := told_u8 hW f (s.drop n) (by rw [List.length_drop]; omega) (okN_dropn _ hok)
      have htl : (s.take n).length = n := by rw [List.length_take]; omega
      have hfl : (fillN (s.take n) ((n + 7) / 8 * 8)).length = (n + 7) / 8 * 8 := fill_length _ _ (by omega)
      have hfok := fill_ok ((n + 7) / 8 * 8) (okN_take n hok)
      obtain ⟨hp0, _⟩ := pack_fine hW hfok (by omega)
      obtain ⟨_, hu8, _⟩ := unpack_pack (okN_u64 hW hfok) hp0
      rw [ht]
      intro x h
      rcases List.mem_append.1 h with h | h
      · unfold packS at h
        rcases List.mem_append.1 h with h | h
        · exact vb_range _ x h
        · exact hu8 x h
      · exact ih x h
end Go.Proofs.Ytpibhiacmceekaa.L11
end

section
namespace Go.Proofs.Ytpibhiacmceekaa.L11
set_option linter.unusedVariables false
set_option linter.unusedSimpArgs false
open Go.RowKit Go.Proofs.Ytpibhiacmceekaa.X Go.Proofs.YtpibhiacmceekaaW.PrintWords Go.Proofs.YtpibhiacmceekaaW.PrintLast Go.Proofs.YtpibhiacmceekaaW.PrintMore Go.Proofs.Ytpibhiacmceekaa.Bx Go.Proofs.Ytpibhiacmceekaa.Nx
theorem si_drop {l : List Int} {i : Nat} (h : i < l.length) : l.drop i = l.getD i 0 :: l.drop (i + 1) := by
  rw [List.drop_eq_getElem_cons h, List.getD_eq_getElem?_getD, List.getElem?_eq_getElem h]; rfl
theorem si_w {n : Nat} (h : n + 1 ≤ 1000000000) : wrap64 ((n : Int) + 1) = ((n + 1 : Nat) : Int) := by unfold wrap64; omega
theorem sameInts_l : ∀ (d i k : Nat) (a b : List Int), a.length ≤ 100000000 → a.length = b.length → i + d = a.length → d < k → marquetryref11_SameInts.l0 k a b (i : Int) = some (decide (a.drop i = b.drop i))
  | 0, i, k, a, b, hl, hab, hi, hk => by
    obtain ⟨k, rfl⟩ : ∃ j, k = j + 1 := ⟨k - 1, by omega⟩
    rw [marquetryref11_SameInts.l0, if_neg (by omega), List.drop_eq_nil_of_le (by omega), List.drop_eq_nil_of_le (by omega)]; rfl
  | d + 1, i, k, a, b, hl, hab, hi, hk => by
    obtain ⟨k, rfl⟩ : ∃ j, k = j + 1 := ⟨k - 1, by omega⟩
    have ha : rd a (i : Int) = a.getD i 0 := rfl
    have hb : rd b (i : Int) = b.getD i 0 := rfl
    rw [marquetryref11_SameInts.l0, if_pos (by omega), if_pos (by omega), if_pos (by omega), ha, hb, si_w (by omega), si_drop (l := a) (by omega), si_drop (l := b) (by omega)]
    by_cases c : a.getD i 0 = b.getD i 0
    · rw [if_pos c, sameInts_l d (i + 1) k a b hl hab (by omega) (by omega), c]
      simp
    · rw [if_neg c, decide_eq_false (fun h => c (List.cons.inj h).1)]
theorem sameInts {k : Nat} {a b : List Int} (hl : a.length ≤ 100000000) (hk : a.length < k) : marquetryref11_SameInts.f k a b = some (decide (a = b)) := by
  unfold marquetryref11_SameInts.f
  by_cases c : a.length = b.length
  · have := sameInts_l a.length 0 k a b hl c (by omega) hk
    rw [List.drop_zero, List.drop_zero] at this
    rw [if_pos (by omega)]; exact this
  · rw [if_neg (by omega), decide_eq_false (fun h => c (by rw [h]))]
end Go.Proofs.Ytpibhiacmceekaa.L11
end

section
namespace Go.Proofs.Ytpibhiacmceekaa.L11
set_option linter.unusedVariables false
set_option linter.unusedSimpArgs false
open Go.RowKit Go.Proofs.Ytpibhiacmceekaa.X Go.Proofs.YtpibhiacmceekaaW.PrintWords Go.Proofs.YtpibhiacmceekaaW.PrintLast Go.Proofs.YtpibhiacmceekaaW.PrintMore Go.Proofs.Ytpibhiacmceekaa.Bx Go.Proofs.Ytpibhiacmceekaa.Nx Go.Proofs.Ytpibhiacmceekaa.L1 Go.Proofs.Ytpibhiacmceekaa.Px
def LevelsR (m : Int) (l : List Int) : List Int × Int :=
  if m < 0 then ([], 2) else if 255 < m then ([], 2) else if l.any (lwBad m) = true then ([], 2) else if 65536 < (l.length : Int) then ([], 3) else if m = 0 then ([], 0) else WriteR ((wd m.toNat : Nat) : Int) l
def FramedR (m : Int) (l : List Int) : List Int × Int :=
  if (LevelsR m l).2 = 0 then (if m = 0 then ([], 0) else ((LittleR ((LevelsR m l).1.length : Int) 4).1 ++ (LevelsR m l).1, 0)) else ([], (LevelsR m l).2)
theorem levels_write {k : Nat} {m : Int} {l : List Int} (hk : 3000 + 7 * l.length ≤ k) (hl : l.length ≤ 100000) (hx : ∀ x ∈ l, -9223372036854775808 ≤ x ∧ x ≤ 9223372036854775807) : levels_Write.f k m l = some (LevelsR m l) := by
  unfold levels_Write.f LevelsR
  rw [write (by omega) hl hx]
  repeat (first | (split; rfl) | rfl)
  all_goals (repeat (first | rfl | split))
theorem WriteR_len (w : Int) (l : List Int) : (WriteR w l).1.length ≤ 1048576 := by
  unfold WriteR
  split
  · simp
  · split
    · split
      · simp
      · split
        · simp
        · simp only []; omega
    · simp
theorem LevelsR_len (m : Int) (l : List Int) : (LevelsR m l).1.length ≤ 1048576 := by
  unfold LevelsR
  split
  · simp
  split
  · simp
  split
  · simp
  split
  · simp
  split
  · simp
  · exact WriteR_len _ _
theorem framed {k : Nat} {m : Int} {l : List Int} (hk : 3000 + 7 * l.length ≤ k) (hl : l.length ≤ 100000) (hx : ∀ x ∈ l, -9223372036854775808 ≤ x ∧ x ≤ 9223372036854775807) : levels_Framed.f k m l = some (FramedR m l) := by
  unfold levels_Framed.f FramedR
  rw [levels_write hk hl hx, Option.bind_some]
  by_cases c : (LevelsR m l).2 = 0
  · rw [if_pos c, if_pos c, c]
    by_cases d : m = 0
    · rw [if_pos d, if_pos d]
    · have hn := LevelsR_len m l
      have hL := LittleR_len (((LevelsR m l).1.length : Nat) : Int) 4
      have hu : IntKind.u64.wrap (((LevelsR m l).1.length : Nat) : Int) = (((LevelsR m l).1.length : Nat) : Int) := by rw [u64w]; omega
      rw [if_neg d, if_neg d, hu, little (by omega) (by omega) (by omega), Option.bind_some, if_pos (by omega)]
  · rw [if_neg c, if_neg c]
end Go.Proofs.Ytpibhiacmceekaa.L11
end

section
namespace Go.Proofs.Ytpibhiacmceekaa.L11
set_option linter.unusedVariables false
set_option linter.unusedSimpArgs false
open Go.RowKit Go.Proofs.Ytpibhiacmceekaa.X Go.Proofs.YtpibhiacmceekaaW.PrintWords Go.Proofs.YtpibhiacmceekaaW.PrintLast Go.Proofs.YtpibhiacmceekaaW.PrintMore Go.Proofs.Ytpibhiacmceekaa.Bx Go.Proofs.Ytpibhiacmceekaa.Nx Go.Proofs.Ytpibhiacmceekaa.L1 Go.Proofs.Ytpibhiacmceekaa.Px
def LevReadR (b : List Int) (m n : Int) : List Int × Int :=
  if m < 0 then ([], 2) else if 255 < m then ([], 2) else if n < 0 then ([], 2) else if 65536 < n then ([], 3) else if 1048576 < (b.length : Int) then ([], 3) else
    if m = 0 then (if 0 < (b.length : Int) then ([], 7) else (List.replicate n.toNat 0, 0)) else
      if (ReadR b ((wd m.toNat : Nat) : Int) n).2 = 0 then (if (ReadR b ((wd m.toNat : Nat) : Int) n).1.any (fun x => decide (m < x)) = true then ([], 4) else ((ReadR b ((wd m.toNat : Nat) : Int) n).1, 0)) else ([], (ReadR b ((wd m.toNat : Nat) : Int) n).2)
theorem lev_read {b : List Int} (hb : ∀ x ∈ b, 0 ≤ x ∧ x ≤ 255) {m n : Int} {k : Nat} (hk : 65700 ≤ k) : levels_Read.f k b m n = some (LevReadR b m n) := by
  unfold levels_Read.f LevReadR
  rw [read hb hk, Option.bind_some]
  by_cases c1 : m < 0
  · rw [if_pos c1, if_pos c1]
  rw [if_neg c1, if_neg c1]
  by_cases c2 : 255 < m
  · rw [if_pos c2, if_pos c2]
  rw [if_neg c2, if_neg c2]
  by_cases c3 : n < 0
  · rw [if_pos c3, if_pos c3]
  rw [if_neg c3, if_neg c3]
  by_cases c4 : 65536 < n
  · rw [if_pos c4, if_pos c4]
  rw [if_neg c4, if_neg c4]
  by_cases c5 : 1048576 < (b.length : Int)
  · rw [if_pos c5, if_pos c5]
  rw [if_neg c5, if_neg c5]
  by_cases c6 : m = 0
  · rw [if_pos c6, if_pos c6]
    by_cases c7 : 0 < (b.length : Int)
    · rw [if_pos c7, if_pos c7]
    · rw [if_neg c7, if_neg c7]
  rw [if_neg c6, if_neg c6]
  by_cases c8 : (ReadR b ((wd m.toNat : Nat) : Int) n).2 = 0
  · rw [if_pos c8, if_pos c8]
    by_cases c9 : (ReadR b ((wd m.toNat : Nat) : Int) n).1.any (fun x => decide (m < x)) = true
    · rw [if_pos c9, if_pos c9]
    · rw [if_neg c9, if_neg c9]
  · rw [if_neg c8, if_neg c8]
def UnframeR (b : List Int) (m n : Int) : List Int × Int × Int :=
  if m < 0 then ([], 0, 2) else if 255 < m then ([], 0, 2) else if n < 0 then ([], 0, 2) else if 65536 < n then ([], 0, 3) else if 1048576 < (b.length : Int) then ([], 0, 3) else
    if m = 0 then (List.replicate n.toNat 0, 0, 0) else
      if (b.length : Int) < 4 then ([], 0, 6) else if (b.length : Int) - 4 < (ReadLittleR b 0 4).1 then ([], 0, 6) else
        if (LevReadR ((b.take (4 + (ReadLittleR b 0 4).1).toNat).drop 4) m n).2 = 0 then ((LevReadR ((b.take (4 + (ReadLittleR b 0 4).1).toNat).drop 4) m n).1, 4 + (ReadLittleR b 0 4).1, 0) else ([], 0, (LevReadR ((b.take (4 + (ReadLittleR b 0 4).1).toNat).drop 4) m n).2)
theorem rl4 {b : List Int} : (ReadLittleR b 0 4).2 = 0 ↔ 4 ≤ (b.length : Int) := by
  unfold ReadLittleR
  rw [if_neg (by omega)]
  by_cases c : (4 : Int) > (b.length : Int) - 0
  · rw [if_pos c]; simp; omega
  · rw [if_neg c]; simp; omega
theorem right_f (m : Int) : levels_right.f m = some (decide (0 ≤ m) && decide (m ≤ 255)) := by
  unfold levels_right.f
  by_cases c : m ≥ 0
  · rw [if_pos c, show decide (0 ≤ m) = true from decide_eq_true c]; rfl
  · rw [if_neg c, show decide (0 ≤ m) = false from decide_eq_false c]; rfl
theorem unframe {b : List Int} (hb : ∀ x ∈ b, 0 ≤ x ∧ x ≤ 255) {m n : Int} {k : Nat} (hk : 65710 ≤ k) (hl : b.length ≤ 100000000) : levels_Unframe.f k b m n = some (UnframeR b m n) := by
  obtain ⟨k, rfl⟩ : ∃ j, k = j + 1 + 1 + 1 := ⟨k - 3, by omega⟩
  unfold levels_Unframe.f UnframeR
  rw [right_f, Option.bind_some]
  by_cases c1 : m < 0
  · rw [if_pos c1, decide_eq_false (show ¬ 0 ≤ m by omega), Bool.false_and, if_neg (by decide), levels_Unframe.j0, if_pos rfl]
  rw [if_neg c1, decide_eq_true (show 0 ≤ m by omega), Bool.true_and]
  by_cases c2 : 255 < m
  · rw [if_pos c2, decide_eq_false (show ¬ m ≤ 255 by omega), if_neg (by decide), levels_Unframe.j0, if_pos rfl]
  rw [if_neg c2, decide_eq_true (show m ≤ 255 by omega), if_pos rfl]
  by_cases c3 : n < 0
  · rw [decide_eq_true c3, if_pos c3, levels_Unframe.j0, if_pos rfl]
  rw [decide_eq_false c3, if_neg c3, levels_Unframe.j0, if_neg (by decide)]
  by_cases c4 : 65536 < n
  · rw [if_pos c4, if_pos c4, levels_Unframe.j1, if_pos rfl]
  rw [if_neg c4, if_neg c4]
  by_cases c5 : 1048576 < (b.length : Int)
  · rw [show decide ((b.length : Int) > 1048576) = true from decide_eq_true c5, if_pos c5, levels_Unframe.j1, if_pos rfl]
  rw [show decide ((b.length : Int) > 1048576) = false from decide_eq_false c5, if_neg c5, levels_Unframe.j1, if_neg (by decide)]
  by_cases c6 : m = 0
  · rw [if_pos c6, if_pos c6, if_pos (by omega), if_pos (by omega)]
  rw [if_neg c6, if_neg c6, readLittle (by omega) hb (by omega) (by omega), Option.bind_some]
  by_cases c7 : (b.length : Int) < 4
  · rw [if_neg (by rw [rl4]; omega), if_pos c7, levels_Unframe.j2, if_pos rfl]
  · have h0 := readLittle_nonneg hb 0 4
    obtain ⟨v, hv⟩ : ∃ v, v = (ReadLittleR b 0 4).1 := ⟨_, rfl⟩
    rw [← hv] at h0
    have hw : IntKind.u64.wrap (wrap64 ((b.length : Int) - 4)) = (b.length : Int) - 4 := by rw [w64 (by omega) (by omega), u64w]; omega
    rw [if_pos (rl4.2 (by omega)), if_neg c7, ← hv, hw]
    clear hw
    by_cases c8 : (b.length : Int) - 4 < v
    · rw [show decide (v > (b.length : Int) - 4) = true from decide_eq_true c8, if_pos c8, levels_Unframe.j2, if_pos rfl]
    · have hu : IntKind.u64.wrap (4 + v) = 4 + v := by rw [u64w]; omega
      rw [show decide (v > (b.length : Int) - 4) = false from decide_eq_false c8, if_neg c8, levels_Unframe.j2, if_neg (by decide), hu]
      clear hu
      rw [if_pos (by omega), if_pos (by omega), lev_read (fun x h => hb x (mid_mem h)) (by omega), Option.bind_some]
      have hw1 : wrap64 v = v := w64 (by omega) (by omega)
      rw [hw1, w64 (a := 4 + v) (by omega) (by omega)]
      split <;> rfl
end Go.Proofs.Ytpibhiacmceekaa.L11
end

section
namespace Go.Proofs.Ytpibhiacmceekaa.L11
set_option linter.unusedVariables false
set_option linter.unusedSimpArgs false
open Go.RowKit Go.Proofs.Ytpibhiacmceekaa.X Go.Proofs.YtpibhiacmceekaaW.PrintWords Go.Proofs.YtpibhiacmceekaaW.PrintLast Go.Proofs.YtpibhiacmceekaaW.PrintMore Go.Proofs.Ytpibhiacmceekaa.Bx Go.Proofs.Ytpibhiacmceekaa.Nx Go.Proofs.Ytpibhiacmceekaa.L1 Go.Proofs.Ytpibhiacmceekaa.Px
theorem not_lw {m : Int} {l : List Int} (h : ¬ l.any (lwBad m) = true) : ∀ x ∈ l, 0 ≤ x ∧ x ≤ m := by
  intro x hx
  have : lwBad m x = false := by
    cases hb : lwBad m x with
    | false => rfl
    | true => exact absurd (List.any_eq_true.2 ⟨x, hx, hb⟩) h
  unfold lwBad at this
  simp at this
  omega
theorem lw_fine {m : Int} {l : List Int} (h : ∀ x ∈ l, 0 ≤ x ∧ x ≤ m) : ¬ l.any (lwBad m) = true := by
  intro hn
  obtain ⟨x, hx, hb⟩ := List.any_eq_true.1 hn
  have := h x hx
  unfold lwBad at hb
  simp at hb
  omega
theorem wd_mono' {a b : Nat} (h : a ≤ b) : wd a ≤ wd b := (wd_le (wd b) a).2 (Nat.lt_of_le_of_lt h ((wd_le (wd b) b).1 (Nat.le_refl _)))
theorem LevelsR_ok {m : Int} {l : List Int} (h : (LevelsR m l).2 = 0) : 0 ≤ m ∧ m ≤ 255 ∧ okN (wd m.toNat) l ∧ ∀ x ∈ l, 0 ≤ x ∧ x ≤ m := by
  unfold LevelsR at h
  by_cases c1 : m < 0
  · rw [if_pos c1] at h; exact absurd h (by decide)
  rw [if_neg c1] at h
  by_cases c2 : 255 < m
  · rw [if_pos c2] at h; exact absurd h (by decide)
  rw [if_neg c2] at h
  by_cases c3 : l.any (lwBad m) = true
  · rw [if_pos c3] at h; exact absurd h (by decide)
  have hm := not_lw c3
  exact ⟨by omega, by omega, fun x hx => ⟨(hm x hx).1, wd_mono' (by have := hm x hx; omega)⟩, hm⟩
theorem LevelsR_bad {m : Int} {l : List Int} (h : (LevelsR m l).2 ≠ 0) : LevelsR m l = ([], (LevelsR m l).2) := by
  unfold LevelsR at h ⊢
  by_cases c1 : m < 0
  · rw [if_pos c1]
  rw [if_neg c1] at h ⊢
  by_cases c2 : 255 < m
  · rw [if_pos c2]
  rw [if_neg c2] at h ⊢
  by_cases c3 : l.any (lwBad m) = true
  · rw [if_pos c3]
  rw [if_neg c3] at h ⊢
  by_cases c4 : 65536 < (l.length : Int)
  · rw [if_pos c4]
  rw [if_neg c4] at h ⊢
  by_cases c5 : m = 0
  · rw [if_pos c5]
  rw [if_neg c5] at h ⊢
  unfold WriteR at h ⊢
  by_cases d1 : ((wd m.toNat : Nat) : Int) < 0 ∨ 32 < ((wd m.toNat : Nat) : Int)
  · rw [if_pos d1]
  rw [if_neg d1] at h ⊢
  by_cases d2 : okN ((wd m.toNat : Nat) : Int).toNat l
  · rw [if_pos d2] at h ⊢
    by_cases d3 : 65536 < l.length
    · rw [if_pos d3]
    rw [if_neg d3] at h ⊢
    by_cases d4 : 1048576 < (toldS ((wd m.toNat : Nat) : Int).toNat l.length l).length
    · rw [if_pos d4]
    · rw [if_neg d4] at h; exact absurd rfl h
  · rw [if_neg d2]
theorem levels_zero {l : List Int} (hl : l.length ≤ 400) (h : ∀ x ∈ l, x = 0) : LevelsR ((0 : Nat) : Int) l = ([], 0) := by
  unfold LevelsR
  rw [if_neg (by omega), if_neg (by omega), if_neg (lw_fine (fun x hx => by rw [h x hx]; simp)), if_neg (by omega), if_pos (show ((0 : Nat) : Int) = 0 from rfl)]
theorem levels_pos {M : Nat} (h0 : 0 < M) (h1 : M ≤ 255) {l : List Int} (hl : l.length ≤ 400) (hok : okN (wd M) l) (hm : ∀ x ∈ l, 0 ≤ x ∧ x ≤ (M : Int)) : LevelsR (M : Int) l = (toldS (wd M) l.length l, 0) := by
  have hW : wd M ≤ 8 := (wd_le 8 M).2 (by omega)
  unfold LevelsR
  rw [if_neg (by omega), if_neg (by omega), if_neg (lw_fine hm), if_neg (by omega), if_neg (by omega), show ((M : Int)).toNat = M from rfl]
  exact write_ok (by omega) (by omega) hok
theorem lev_zero {n : Nat} (hn : (n : Int) ≤ 400) : LevReadR [] ((0 : Nat) : Int) (n : Int) = (List.replicate n 0, 0) := by
  unfold LevReadR
  rw [if_neg (by omega), if_neg (by omega), if_neg (by omega), if_neg (by omega), if_neg (by simp), if_pos (show ((0 : Nat) : Int) = 0 from rfl), if_neg (by simp)]; rfl
theorem unframe_zero {b : List Int} (hb : b.length ≤ 100000) {n : Nat} (hn : (n : Int) ≤ 400) : UnframeR b ((0 : Nat) : Int) (n : Int) = (List.replicate n 0, 0, 0) := by
  unfold UnframeR
  rw [if_neg (by omega), if_neg (by omega), if_neg (by omega), if_neg (by omega), if_neg (by omega), if_pos (show ((0 : Nat) : Int) = 0 from rfl)]; rfl
theorem lev_back {M : Nat} (h0 : 0 < M) (h1 : M ≤ 255) {l T : List Int} (hl : l.length ≤ 400) (hT : T.length ≤ 100000) (hr : ReadR T ((wd M : Nat) : Int) (l.length : Int) = (l, 0)) (hm : ∀ x ∈ l, 0 ≤ x ∧ x ≤ (M : Int)) : LevReadR T (M : Int) (l.length : Int) = (l, 0) := by
  unfold LevReadR
  rw [if_neg (by omega), if_neg (by omega), if_neg (by omega), if_neg (by omega), if_neg (by omega), if_neg (by omega), show ((M : Int)).toNat = M from rfl, hr]
  simp only [if_true]
  rw [if_neg]
  intro hn
  obtain ⟨x, hx, hb⟩ := List.any_eq_true.1 hn
  have := hm x hx
  simp at hb
  omega
theorem little4 {n : Nat} (h0 : 0 ≤ n) (h1 : n ≤ 100000) : (LittleR (n : Int) 4).1 = leb 4 (n : Int) := by
  unfold LittleR
  rw [if_neg]
  · rfl
  · rintro (g | g | ⟨g1, g2⟩)
    · omega
    · omega
    · apply g2
      rw [show (8 * (4 : Int)).toNat = 32 from rfl]
      exact Int.ediv_eq_zero_of_lt (by omega) (by have : (2 : Int) ^ 32 = 4294967296 := by decide
                                                  omega)
theorem unframe_back {M : Nat} (h0 : 0 < M) (h1 : M ≤ 255) {l T b : List Int} (hl : l.length ≤ 400) (hT : T.length ≤ 100000) (hb : b.length ≤ 400) (hr : LevReadR T (M : Int) (l.length : Int) = (l, 0)) :
    UnframeR (leb 4 (T.length : Int) ++ T ++ b) (M : Int) (l.length : Int) = (l, 4 + (T.length : Int), 0) := by
  have hlen : (leb 4 (T.length : Int) ++ T ++ b).length = 4 + T.length + b.length := by simp only [List.length_append, leb_length]
  have hread : (ReadLittleR (leb 4 (T.length : Int) ++ T ++ b) 0 4).1 = (T.length : Int) := by
    unfold ReadLittleR
    rw [if_neg (by rw [hlen]; omega), if_neg (by rw [hlen]; omega)]
    have hw : win (leb 4 (T.length : Int) ++ T ++ b) ((0 : Int)).toNat ((4 : Int)).toNat = leb 4 (T.length : Int) := by
      unfold win
      rw [show ((0 : Int)).toNat = 0 from rfl, List.drop_zero, List.append_assoc, show ((4 : Int)).toNat = (leb 4 (T.length : Int)).length by rw [leb_length]; rfl, List.take_left]
    show leS _ = _
    rw [hw]
    exact leS_leb_id (by omega) (by have : (256 : Int) ^ 4 = 4294967296 := by decide
                                    omega)
  have hmid : ((leb 4 (T.length : Int) ++ T ++ b).take (4 + (T.length : Int)).toNat).drop 4 = T := by
    have := take_drop_mid (pre := leb 4 (T.length : Int)) (m := T) (tl := b)
    rw [leb_length] at this
    rw [show (4 + (T.length : Int)).toNat = 4 + T.length by omega, List.append_assoc]
    exact this
  unfold UnframeR
  rw [if_neg (by omega), if_neg (by omega), if_neg (by omega), if_neg (by omega), if_neg (by omega), if_neg (by omega), if_neg (by omega), hread, if_neg (by omega), hmid, hr]
  simp
end Go.Proofs.Ytpibhiacmceekaa.L11
end

section
namespace Go.Proofs.Ytpibhiacmceekaa.Rd
open Go.ChangeShapes Go.WideShapes Go.Deep Go.RowKit Go.Joins Go.Proofs.YtpibhiacmceekaaW.PrintWords
structure Opens (P : Program) (t : TypeId) {α : Type} (d : Kd α) (Wf : α → Prop) : Prop where
  opens : ∀ {H : Type} {enc : TypeId × Value → H} {w : World} {base : Nat} {spare : Nat → Bool} {held : Bool} {n : Nat} {cs : List Value} {y : DataW H × List MemPlace},
    DataW.trod enc P w base spare held n t cs = some y → (∀ m ∈ y.1.weights P t, m ≤ reachBytes) → ∃ x, d.K w x cs ∧ Wf x
theorem reach_le {m : Nat} (h : m ≤ reachBytes) : m ≤ 140737488351232 := h
theorem opens_int {P : Program} {t : TypeId} {k : IntKind} (hu : P.underlying t = some (.int k)) : Opens P t (Kd.int k) (fun x => (Lit.int k x).wf = true) := by
  refine ⟨fun {H enc w base spare held n cs y} h _ => ?_⟩
  obtain ⟨x, rfl, _, hw⟩ := DataW.trod_int hu h
  exact ⟨x, rfl, hw⟩
theorem list_of {α : Type} {p : Nat → α → Prop} : ∀ (n : Nat), (∀ i, i < n → ∃ x, p i x) → ∃ xs : List α, xs.length = n ∧ ∀ i x, xs[i]? = some x → p i x
  | 0, _ => ⟨[], rfl, fun i x h => by simp at h⟩
  | n + 1, h => by
    obtain ⟨xs, hl, hx⟩ := list_of n (fun i hi => h i (by omega))
    obtain ⟨x, hp⟩ := h n (by omega)
    refine ⟨xs ++ [x], by simp [hl], fun i y hy => ?_⟩
    rcases Nat.lt_or_ge i xs.length with hi | hi
    · rw [List.getElem?_append_left hi] at hy; exact hx i y hy
    · have hi' : i = xs.length := by
        have := (List.getElem?_eq_some_iff.1 hy).1
        simp at this; omega
      subst hi'
      have : x = y := by simpa using hy
      subst this
      rw [hl]; exact hp
theorem weights_all {H : Type} {P : Program} {e : TypeId} : ∀ (ds : List (DataW H)) (d : DataW H), d ∈ ds → ∀ m ∈ d.weights P e, m ∈ DataW.weightsAll P e ds
  | [], d, h, _, _ => by simp at h
  | d0 :: ds, d, h, m, hm => by
    simp only [DataW.weightsAll, List.mem_append]
    rcases List.mem_cons.1 h with rfl | h
    · exact .inl hm
    · exact .inr (weights_all ds d h m hm)
theorem opens_slice {P : Program} {t e : TypeId} {α : Type} {d : Kd α} {Wf : α → Prop} {B : Nat} (hu : P.underlying t = some (.slice e)) (hsz : P.cellsOf e = d.sz) (hB : P.bytesOf e = B) (ho : Opens P e d Wf) :
    Opens P t (Kd.slice e d) (fun xs => (∀ x ∈ xs, Wf x) ∧ xs.length ≤ maxLen ∧ xs.length * B ≤ 140737488351232) := by
  refine ⟨fun {H enc w base spare held n cs y} h hw => ?_⟩
  rcases open_slice hu h with ⟨rfl, _⟩ | ⟨a, len, cap, m, n', D, Pl, rfl, hb, hl, hm, hmm, rfl, hx⟩
  · exact ⟨[], ⟨none, 0, rfl, Nat.le_refl _, rfl, Nat.zero_le _, fun h => absurd h (by simp)⟩, by simp⟩
  · have hlm : len ≤ m := by rw [hmm]; split <;> omega
    have hsize : len * B ≤ 140737488351232 := by
      have := hw ((((List.range len).map D).length + ((List.range (m - len)).map fun j => D (len + j)).length) * P.bytesOf e) (by simp [DataW.weights, hu])
      rw [hB] at this
      refine Nat.le_trans (Nat.mul_le_mul_right _ ?_) (reach_le this)
      simp
    obtain ⟨xs, hxl, hxs⟩ := list_of (p := fun i x => ∃ cs', w.cells? base (a.add (i * P.cellsOf e)) (P.cellsOf e) = some cs' ∧ d.K w x cs' ∧ Wf x) len (fun i hi => by
      obtain ⟨cs', h1, h2⟩ := hx i (by omega)
      obtain ⟨x, hk, hwf⟩ := ho.opens h2 (fun q hq => hw q (by
        simp only [DataW.weights, hu, List.mem_cons, List.mem_append]
        exact .inr (.inl (weights_all _ (D i) (List.mem_map.2 ⟨i, List.mem_range.2 hi, rfl⟩) q hq))))
      exact ⟨x, cs', h1, hk, hwf⟩)
    subst hxl
    refine ⟨xs, ⟨some a, cap, rfl, hl, rfl, ?_, fun _ => ⟨a, rfl, fun j p hp => ?_⟩⟩, ⟨fun x hx' => ?_, Nat.le_trans hl hm, hsize⟩⟩
    · unfold maxLen at hm; omega
    · obtain ⟨cs', h1, hk, _⟩ := hxs j p hp
      obtain ⟨_, hcl, hcc⟩ := World.cells?_some h1
      refine ⟨cs', by rw [hcl, hsz], hk, fun i u hiu => ?_⟩
      have hi : i < P.cellsOf e := by rw [← hcl]; exact (List.getElem?_eq_some_iff.1 hiu).1
      rw [← hsz, ← Go.Deep.add_add, hcc i hi]
      exact hiu
    · obtain ⟨i, hi⟩ := List.getElem?_of_mem hx'
      exact (hxs i x hi).choose_spec.2.2
theorem one_of {P : Program} {fs : Array Field} (hone : oneCellFields P fs = true) {j : Nat} {f : Field} (h : fs.toList[j]? = some f) : f.offset = j ∧ P.cellsOf f.type = 1 := hone_of hone j f (by simpa using h)
theorem opens_arg {P : Program} {t : TypeId} {α : Type} {d : Kd α} {Wf : α → Prop} (ho : Opens P t d Wf) {H : Type} {enc : TypeId × Value → H} {w : World} {base : Nat} {spare : Nat → Bool} {held : Bool} {v : Value} {dt : DataW H} {p : List MemPlace}
    (h : DataW.Trod enc P w base spare held t v dt p) {ts : List TypeId} {ds : List (DataW H)} {j : Nat} (hsz : (DataW.weightsEach P ts ds).all (· ≤ reachBytes) = true) (ht : ts[j]? = some t) (hd : ds[j]? = some dt) : ∃ x, d.K w x v.cells.toList ∧ Wf x := by
  obtain ⟨n, hn⟩ := h
  refine ho.opens hn (fun m hm => ?_)
  have := List.all_eq_true.1 hsz m (DataW.weights_mem_each ht hd m hm)
  simpa using this
end Go.Proofs.Ytpibhiacmceekaa.Rd
end
