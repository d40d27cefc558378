/- Layer 11, writing: the numbers of a packed run, filled up to whole groups. -/
import Derived.Test.YtpibhiacmceekaaX10
import Derived.Test.YtpibhiacmceekaaX14
import Derived.Test.YtpibhiacmceekaaL11
namespace Go.Proofs.Ytpibhiacmceekaa.L11
set_option linter.unusedVariables false
set_option linter.unusedSimpArgs false
open Go.RowKit Go.Proofs.Ytpibhiacmceekaa.X Go.Proofs.YtpibhiacmceekaaW.PrintWords Go.Proofs.YtpibhiacmceekaaW.PrintLast Go.Proofs.YtpibhiacmceekaaW.PrintMore Go.Proofs.Ytpibhiacmceekaa.Bx Go.Proofs.Ytpibhiacmceekaa.Nx

/-- Filled up to M. -/
def fillN (xs : List Int) (M : Nat) : List Int := xs ++ List.replicate (M - xs.length) 0
theorem fill_step (xs : List Int) (M i : Nat) (hi : i < xs.length) (hM : xs.length ≤ M) : (fillN (xs.take i) M).set i (xs.getD i 0) = fillN (xs.take (i + 1)) M := by
  unfold fillN
  have h1 : (xs.take i).length = i := by rw [List.length_take]; omega
  have h2 : (xs.take (i + 1)).length = i + 1 := by rw [List.length_take]; omega
  rw [h1, h2, List.set_append_right _ _ (by omega), h1, Nat.sub_self, show M - i = (M - (i + 1)) + 1 by omega, List.replicate_succ, List.set_cons_zero, List.take_succ_eq_append_getElem hi, List.append_assoc, List.getD_eq_getElem?_getD, List.getElem?_eq_getElem hi]
  rfl
theorem fill_l2 (k : Nat) (W : Int) (x1 x8 xs : List Int) (x9 : Int) (M : Nat) (hM : xs.length ≤ M) (hl : xs.length ≤ 100000000) (hx : ∀ x ∈ xs, 0 ≤ x ∧ x ≤ 9223372036854775807) : ∀ (d i : Nat), i + d = xs.length →
    hybrid_Write.l2 (k + 1 + d) W x1 x8 x9 (fillN (xs.take i) M) xs (xs.length : Int) (i : Int) = hybrid_Write.l2 (k + 1) W x1 x8 x9 (fillN xs M) xs (xs.length : Int) (xs.length : Int)
  | 0, i, hi => by
    rw [Nat.add_zero] at hi ⊢
    rw [hi, List.take_length]
  | d + 1, i, hi => by
    have hli : (fillN (xs.take i) M).length = M := by unfold fillN; rw [List.length_append, List.length_replicate, List.length_take]; omega
    have hr : rd xs (i : Int) = xs.getD i 0 := rfl
    have hget : 0 ≤ xs.getD i 0 ∧ xs.getD i 0 ≤ 9223372036854775807 := by
      rw [List.getD_eq_getElem?_getD, List.getElem?_eq_getElem (by omega)]; exact hx _ (List.getElem_mem (by omega))
    have hw : IntKind.u64.wrap (xs.getD i 0) = xs.getD i 0 := by rw [u64w]; omega
    rw [show k + 1 + (d + 1) = (k + 1 + d) + 1 by omega, hybrid_Write.l2, if_pos (by omega), if_pos (by omega), if_pos (by omega), hli, if_pos (by omega), hr, hw, w64s' (by omega), show ((i : Int)).toNat = i from rfl, fill_step xs M i (by omega) hM]
    exact fill_l2 k W x1 x8 xs x9 M hM hl hx d (i + 1) (by omega)
theorem fill_length (xs : List Int) (M : Nat) (h : xs.length ≤ M) : (fillN xs M).length = M := by unfold fillN; rw [List.length_append, List.length_replicate]; omega
theorem fill_snoc_in (xs : List Int) (i : Nat) (h : i < xs.length) : fillN (xs.take i) i ++ [xs.getD i 0] = fillN (xs.take (i + 1)) (i + 1) := by
  unfold fillN
  have h1 : (xs.take i).length = i := by rw [List.length_take]; omega
  have h2 : (xs.take (i + 1)).length = i + 1 := by rw [List.length_take]; omega
  rw [h1, h2, Nat.sub_self, Nat.sub_self, List.replicate_zero, List.append_nil, List.append_nil, List.take_succ_eq_append_getElem h, List.getD_eq_getElem?_getD, List.getElem?_eq_getElem h]
  rfl
theorem fill_snoc_out (xs : List Int) (i : Nat) (h : xs.length ≤ i) : fillN (xs.take i) i ++ [0] = fillN (xs.take (i + 1)) (i + 1) := by
  unfold fillN
  rw [List.take_of_length_le h, List.take_of_length_le (by omega), List.append_assoc, show i + 1 - xs.length = (i - xs.length) + 1 by omega, List.replicate_succ']
theorem ref_fill (k : Nat) (W : Int) (l out : List Int) (at_ n : Nat) (hl : l.length ≤ 100000000) (hn : at_ + n ≤ l.length) (hx : ∀ x ∈ l, 0 ≤ x ∧ x ≤ 9223372036854775807) (M : Nat) (hM : M = (n + 7) / 8 * 8) : ∀ (d i : Nat), i + d = M →
    marquetryref11_Told.l1 (k + 2 * d) W l out (at_ : Int) (n : Int) (fillN (((l.drop at_).take n).take i) i) (i : Int) = marquetryref11_Told.l1 k W l out (at_ : Int) (n : Int) (fillN ((l.drop at_).take n) M) (M : Int)
  | 0, i, hi => by
    have : ((l.drop at_).take n).length = n := by rw [List.length_take, List.length_drop]; omega
    rw [Nat.mul_zero, Nat.add_zero, show i = M by omega, List.take_of_length_le (by omega)]
  | d + 1, i, hi => by
    have hxl : ((l.drop at_).take n).length = n := by rw [List.length_take, List.length_drop]; omega
    have hlen : (fillN (((l.drop at_).take n).take i) i).length = i := fill_length _ _ (by rw [List.length_take]; omega)
    have ih := ref_fill k W l out at_ n hl hn hx M hM d (i + 1) (by omega)
    rw [show k + 2 * (d + 1) = (k + 2 * d) + 1 + 1 by omega, marquetryref11_Told.l1]
    by_cases c : i < n
    · have hg : ((l.drop at_).take n).getD i 0 = l.getD (at_ + i) 0 := by
        rw [List.getD_eq_getElem?_getD, List.getElem?_take_of_lt c, List.getElem?_drop, ← List.getD_eq_getElem?_getD]
      have hr : rd l ((at_ + i : Nat) : Int) = l.getD (at_ + i) 0 := rfl
      have hget : 0 ≤ l.getD (at_ + i) 0 ∧ l.getD (at_ + i) 0 ≤ 9223372036854775807 := by
        rw [List.getD_eq_getElem?_getD, List.getElem?_eq_getElem (by omega)]; exact hx _ (List.getElem_mem (by omega))
      have hw : IntKind.u64.wrap (l.getD (at_ + i) 0) = l.getD (at_ + i) 0 := by rw [u64w]; omega
      rw [if_pos (by omega), marquetryref11_Told.j2, if_pos rfl, if_pos (by omega), w64a (by omega), if_pos (by omega), if_pos (by omega), hlen, if_pos (by omega), hr, hw, ← hg, fill_snoc_in _ _ (by omega), w64s' (by omega)]
      exact ih
    · rw [if_neg (by omega), hlen, marquetryref11_Told.j2, if_pos (by simp; omega), if_neg (by omega), hlen, if_pos (by omega), fill_snoc_out _ _ (by omega), w64s' (by omega)]
      exact ih
end Go.Proofs.Ytpibhiacmceekaa.L11
