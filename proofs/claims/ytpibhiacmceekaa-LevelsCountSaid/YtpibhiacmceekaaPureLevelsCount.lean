/- LevelsCount: for all levels and any level, the program's count is how many are that level. No condition. -/
import Derived.Test.YtpibhiacmceekaaX5
import Derived.Test.YtpibhiacmceekaaX4
import Derived.Test.YtpibhiacmceekaaNx
namespace Go.Proofs.Ytpibhiacmceekaa.Pure
open Go.RowKit Go.Proofs.Ytpibhiacmceekaa.X Go.Proofs.YtpibhiacmceekaaW.PrintWords Go.Proofs.YtpibhiacmceekaaW.PrintLast Go.Proofs.YtpibhiacmceekaaW.PrintMore Go.Proofs.Ytpibhiacmceekaa.Bx Go.Proofs.Ytpibhiacmceekaa.Nx

theorem cnt_at (l0 l1 : List Int) (x : Int) : rd (l0 ++ x :: l1) (l0.length : Int) = x := by
  unfold rd
  rw [List.getD_eq_getElem?_getD, show ((l0.length : Int)).toNat = l0.length from rfl, List.getElem?_append_right (Nat.le_refl _)]; simp
theorem cnt_w {n m : Nat} (h : n + 1 ≤ m) (hm : m ≤ 1000000000) : wrap64 ((n : Int) + 1) = ((n + 1 : Nat) : Int) := by unfold wrap64; omega
theorem count_l : ∀ (l1 : List Int) (k : Nat) (l l0 : List Int) (a n : Int), l = l0 ++ l1 → l.length ≤ 1000000 → l1.length < k → cntL a l 0 = cntL a l1 n → marquetrylaw20_LevelsCount.l0 k l a n (l0.length : Int) = some true
  | [], k, l, l0, a, n, he, hl, hk, hc => by
    obtain ⟨k, rfl⟩ : ∃ j, k = j + 1 := ⟨k - 1, by omega⟩
    rw [List.append_nil] at he
    subst he
    rw [marquetrylaw20_LevelsCount.l0, if_neg (by omega), levels_Count.f, hc, Option.bind_some, cntL]; simp
  | x :: l1, k, l, l0, a, n, he, hl, hk, hc => by
    obtain ⟨k, rfl⟩ : ∃ j, k = j + 1 := ⟨k - 1, by omega⟩
    have hll : l.length = l0.length + (l1.length + 1) := by rw [he]; simp
    have hrd : rd l (l0.length : Int) = x := by rw [he]; exact cnt_at l0 l1 x
    have ih := fun m => count_l l1 k l (l0 ++ [x]) a m (by rw [he]; simp) hl (by simp at hk; omega)
    simp only [List.length_append, List.length_singleton] at ih
    rw [cntL] at hc
    rw [marquetrylaw20_LevelsCount.l0, if_pos (by omega), if_pos (by omega), hrd, cnt_w (m := l.length) (by omega) (by omega)]
    by_cases c : x = a
    · rw [if_pos c] at hc ⊢
      exact ih _ hc
    · rw [if_neg c] at hc ⊢
      exact ih _ hc
theorem LevelsCount : marquetrylaw20_LevelsCount.Pure := by
  intro l a _ _
  refine ⟨1000, ?_⟩
  unfold marquetrylaw20_LevelsCount.f
  by_cases c : (l.length : Int) > 400
  · rw [if_pos c]
  rw [if_neg c]
  exact count_l l 1000 l [] a 0 rfl (by omega) (by omega) rfl

end Go.Proofs.Ytpibhiacmceekaa.Pure
