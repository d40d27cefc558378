/- Layer 11: how many at the front are the same, how many a packed run has: the program's and the reference's. -/
import Derived.Test.YtpibhiacmceekaaX5
import Derived.Test.YtpibhiacmceekaaX7
import Derived.Test.YtpibhiacmceekaaX11
import Derived.Test.YtpibhiacmceekaaNx
namespace Go.Proofs.Ytpibhiacmceekaa.L11
set_option linter.unusedVariables false
set_option linter.unusedSimpArgs false
open Go.RowKit Go.Proofs.Ytpibhiacmceekaa.X Go.Proofs.YtpibhiacmceekaaW.PrintWords Go.Proofs.YtpibhiacmceekaaW.PrintLast Go.Proofs.YtpibhiacmceekaaW.PrintMore Go.Proofs.Ytpibhiacmceekaa.Bx Go.Proofs.Ytpibhiacmceekaa.Nx

/-- How many at the front are x. -/
def runOf (x : Int) : List Int → Nat
  | [] => 0
  | y :: l => if y = x then runOf x l + 1 else 0
def sameN (l : List Int) : Nat := runOf (l.getD 0 0) l
theorem runOf_le (x : Int) : ∀ l, runOf x l ≤ l.length
  | [] => Nat.le_refl _
  | y :: l => by
    have := runOf_le x l
    unfold runOf; split <;> simp <;> omega
theorem drop_cons {l : List Int} {i : Nat} (h : i < l.length) : l.drop i = l.getD i 0 :: l.drop (i + 1) := by
  rw [List.drop_eq_getElem_cons h, List.getD_eq_getElem?_getD, List.getElem?_eq_getElem h]; rfl
theorem w64s' {n : Nat} (h : n + 1 ≤ 1000000000) : wrap64 ((n : Int) + 1) = ((n + 1 : Nat) : Int) := by unfold wrap64; omega
theorem w64a {n m : Nat} (h : n + m ≤ 1000000000) : wrap64 ((n : Int) + (m : Int)) = ((n + m : Nat) : Int) := by unfold wrap64; omega
theorem same_l (l : List Int) (hl : l.length ≤ 100000000) : ∀ (d i k : Nat), i + d = l.length → d < k → hybrid_same.l0 k l (i : Int) = some (((i + runOf (l.getD 0 0) (l.drop i) : Nat)) : Int)
  | 0, i, k, hi, hk => by
    obtain ⟨k, rfl⟩ : ∃ j, k = j + 1 := ⟨k - 1, by omega⟩
    rw [List.drop_eq_nil_of_le (by omega), runOf, hybrid_same.l0]
    simp only [show ¬ ((i : Int) < (l.length : Int)) by omega, if_false, Nat.add_zero]
  | d + 1, i, k, hi, hk => by
    obtain ⟨k, rfl⟩ : ∃ j, k = j + 1 := ⟨k - 1, by omega⟩
    have hr : rd l (i : Int) = l.getD i 0 := rfl
    have hr0 : rd l 0 = l.getD 0 0 := rfl
    rw [drop_cons (by omega), runOf, hybrid_same.l0]
    rw [if_pos (by omega), if_pos (by omega), if_pos (by omega), hr, hr0]
    by_cases c : l.getD i 0 = l.getD 0 0
    · rw [if_pos c, if_pos c, w64s' (by omega), same_l l hl d (i + 1) k (by omega) (by omega)]
      congr 2; omega
    · rw [if_neg c, if_neg c, Nat.add_zero]
theorem ref_same_l (l : List Int) (hl : l.length ≤ 100000000) (at_ : Nat) (ha : at_ < l.length) : ∀ (d i k : Nat), at_ + i + d = l.length → d < k → marquetryref11_same.l0 k l (at_ : Int) (i : Int) = some (((i + runOf (l.getD at_ 0) (l.drop (at_ + i)) : Nat)) : Int)
  | 0, i, k, hi, hk => by
    obtain ⟨k, rfl⟩ : ∃ j, k = j + 1 := ⟨k - 1, by omega⟩
    rw [List.drop_eq_nil_of_le (by omega), runOf, marquetryref11_same.l0, w64a (by omega), if_neg (by omega), Nat.add_zero]
  | d + 1, i, k, hi, hk => by
    obtain ⟨k, rfl⟩ : ∃ j, k = j + 1 := ⟨k - 1, by omega⟩
    have hr : rd l ((at_ + i : Nat) : Int) = l.getD (at_ + i) 0 := rfl
    have hr0 : rd l (at_ : Int) = l.getD at_ 0 := rfl
    rw [drop_cons (by omega), runOf, marquetryref11_same.l0, w64a (by omega), if_pos (by omega), if_pos (by omega), if_pos (by omega), if_pos (by omega), hr, hr0]
    by_cases c : l.getD (at_ + i) 0 = l.getD at_ 0
    · rw [if_pos c, if_pos c, w64s' (by omega), ref_same_l l hl at_ ha d (i + 1) k (by omega) (by omega)]
      congr 2; rw [show at_ + (i + 1) = at_ + i + 1 by omega]; omega
    · rw [if_neg c, if_neg c, Nat.add_zero]
theorem same {l : List Int} {k : Nat} (hl : l.length ≤ 100000000) (hk : l.length < k) : hybrid_same.f k l = some ((sameN l : Nat) : Int) := by
  unfold hybrid_same.f
  have := same_l l hl l.length 0 k (by omega) hk
  simpa [sameN] using this
theorem getD_drop (l : List Int) (i : Nat) : (l.drop i).getD 0 0 = l.getD i 0 := by
  rw [List.getD_eq_getElem?_getD, List.getElem?_drop, Nat.add_zero, ← List.getD_eq_getElem?_getD]
theorem ref_same {l : List Int} {k at_ : Nat} (hl : l.length ≤ 100000000) (hk : l.length < k) (ha : at_ < l.length) : marquetryref11_same.f k l (at_ : Int) = some ((sameN (l.drop at_) : Nat) : Int) := by
  unfold marquetryref11_same.f
  have := ref_same_l l hl at_ ha (l.length - at_) 0 k (by omega) (by omega)
  rw [Nat.add_zero, Nat.zero_add, ← getD_drop] at this
  exact this
theorem sameN_le (l : List Int) : sameN l ≤ l.length := runOf_le _ _
theorem sameN_pos {l : List Int} (h : 0 < l.length) : 1 ≤ sameN l := by
  cases l with
  | nil => exact absurd h (by simp)
  | cons x l => simp [sameN, runOf]
/-- How many a packed run has. -/
def packsN (l : List Int) : Nat → Nat → Nat
  | 0, n => n
  | f + 1, n => if n < l.length then (if l.length ≤ n + 8 then l.length else if 8 ≤ sameN (l.drop (n + 8)) then n + 8 else packsN l f (n + 8)) else n
theorem packs_l (l : List Int) (hl : l.length ≤ 100000000) : ∀ (f n k : Nat), l.length ≤ n + f → n ≤ l.length → l.length + f + 3 < k → hybrid_packs.l0 k l (n : Int) = some ((packsN l f n : Nat) : Int)
  | 0, n, k, hf, hn, hk => by
    obtain ⟨k, rfl⟩ : ∃ j, k = j + 1 := ⟨k - 1, by omega⟩
    rw [hybrid_packs.l0, if_neg (by omega)]; rfl
  | f + 1, n, k, hf, hn, hk => by
    obtain ⟨k, rfl⟩ : ∃ j, k = j + 1 := ⟨k - 1, by omega⟩
    rw [hybrid_packs.l0, packsN]
    by_cases c : n < l.length
    · rw [if_pos (by omega), if_pos c]
      by_cases d : l.length ≤ n + 8
      · rw [if_pos d, show min ((n : Int) + 8) (l.length : Int) = (l.length : Int) by omega, show ((l.length : Int)).toNat = l.length from rfl, List.drop_eq_nil_of_le (Nat.le_refl _), same (by simp) (by simp; omega), Option.bind_some]
        rw [if_neg (by simp [sameN, runOf])]
        obtain ⟨k, rfl⟩ : ∃ j, k = j + 1 := ⟨k - 1, by omega⟩
        rw [hybrid_packs.l0, if_neg (by omega)]
      · rw [if_neg d, show min ((n : Int) + 8) (l.length : Int) = ((n + 8 : Nat) : Int) by omega, show (((n + 8 : Nat) : Int)).toNat = n + 8 from rfl, same (by rw [List.length_drop]; omega) (by rw [List.length_drop]; omega), Option.bind_some]
        by_cases e : 8 ≤ sameN (l.drop (n + 8))
        · rw [if_pos (by omega), if_pos e]
        · rw [if_neg (by omega), if_neg e]
          exact packs_l l hl f (n + 8) k (by omega) (by omega) (by omega)
    · rw [if_neg (by omega), if_neg c]
theorem packs {l : List Int} {k : Nat} (hl : l.length ≤ 100000000) (hk : 2 * l.length + 3 < k) : hybrid_packs.f k l = some ((packsN l l.length 0 : Nat) : Int) := by
  unfold hybrid_packs.f
  rw [if_pos (by omega)]
  exact packs_l l hl l.length 0 k (by omega) (by omega) (by omega)
theorem ref_packs_l (l : List Int) (hl : l.length ≤ 100000000) (at_ : Nat) (ha : at_ ≤ l.length) : ∀ (f n k : Nat), (l.drop at_).length ≤ n + f → n ≤ (l.drop at_).length → l.length + f + 3 < k → marquetryref11_packs.l0 k l (at_ : Int) (n : Int) = some ((packsN (l.drop at_) f n : Nat) : Int)
  | 0, n, k, hf, hn, hk => by
    rw [List.length_drop] at hf hn
    obtain ⟨k, rfl⟩ : ∃ j, k = j + 1 := ⟨k - 1, by omega⟩
    rw [marquetryref11_packs.l0, w64a (by omega), if_neg (by omega)]; rfl
  | f + 1, n, k, hf, hn, hk => by
    have hf' := hf
    have hn' := hn
    rw [List.length_drop] at hf hn
    obtain ⟨k, rfl⟩ : ∃ j, k = j + 1 := ⟨k - 1, by omega⟩
    have e8 : wrap64 ((n : Int) + 8) = ((n + 8 : Nat) : Int) := w64a (m := 8) (by omega)
    rw [marquetryref11_packs.l0, w64a (by omega), packsN, e8, w64a (by omega)]
    simp only [List.length_drop, List.drop_drop]
    by_cases c : n < l.length - at_
    · rw [if_pos (by omega), if_pos c]
      by_cases d : l.length - at_ ≤ n + 8
      · rw [if_pos (by omega), if_pos d]
        have : wrap64 ((l.length : Int) - (at_ : Int)) = ((l.length - at_ : Nat) : Int) := by unfold wrap64; omega
        rw [this]
      · rw [if_neg (by omega), if_neg d, ref_same hl (by omega) (by omega), Option.bind_some]
        by_cases e : 8 ≤ sameN (l.drop (at_ + (n + 8)))
        · rw [if_pos (by omega), if_pos e]
        · rw [if_neg (by omega), if_neg e]
          exact ref_packs_l l hl at_ ha f (n + 8) k (by rw [List.length_drop]; omega) (by rw [List.length_drop]; omega) (by omega)
    · rw [if_neg (by omega), if_neg c]
theorem ref_packs {l : List Int} {k at_ : Nat} (hl : l.length ≤ 100000000) (hk : 2 * l.length + 3 < k) (ha : at_ ≤ l.length) : marquetryref11_packs.f k l (at_ : Int) = some ((packsN (l.drop at_) (l.drop at_).length 0 : Nat) : Int) := by
  unfold marquetryref11_packs.f
  exact ref_packs_l l hl at_ ha (l.drop at_).length 0 k (by omega) (by omega) (by rw [List.length_drop]; omega)
end Go.Proofs.Ytpibhiacmceekaa.L11
