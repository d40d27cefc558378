/- Layer 20, writing: levels as bytes, with and without their length, on both sides. -/
import Derived.Test.YtpibhiacmceekaaX19
import Derived.Test.YtpibhiacmceekaaL11x
namespace Go.Proofs.Ytpibhiacmceekaa.L11
set_option linter.unusedVariables false
set_option linter.unusedSimpArgs false
open Go.RowKit Go.Proofs.Ytpibhiacmceekaa.X Go.Proofs.YtpibhiacmceekaaW.PrintWords Go.Proofs.YtpibhiacmceekaaW.PrintLast Go.Proofs.YtpibhiacmceekaaW.PrintMore Go.Proofs.Ytpibhiacmceekaa.Bx Go.Proofs.Ytpibhiacmceekaa.Nx Go.Proofs.Ytpibhiacmceekaa.L1 Go.Proofs.Ytpibhiacmceekaa.Px

def LevelsR (m : Int) (l : List Int) : List Int × Int :=
  if m < 0 then ([], 2) else if 255 < m then ([], 2) else if l.any (lwBad m) = true then ([], 2) else if 65536 < (l.length : Int) then ([], 3) else if m = 0 then ([], 0) else WriteR ((wd m.toNat : Nat) : Int) l
def FramedR (m : Int) (l : List Int) : List Int × Int :=
  if (LevelsR m l).2 = 0 then (if m = 0 then ([], 0) else ((LittleR ((LevelsR m l).1.length : Int) 4).1 ++ (LevelsR m l).1, 0)) else ([], (LevelsR m l).2)
theorem levels_write {k : Nat} {m : Int} {l : List Int} (hk : 3000 + 7 * l.length ≤ k) (hl : l.length ≤ 100000) (hx : ∀ x ∈ l, -9223372036854775808 ≤ x ∧ x ≤ 9223372036854775807) : levels_Write.f k m l = some (LevelsR m l) := by
  unfold levels_Write.f LevelsR
  rw [write (by omega) hl hx]
  repeat (first | (split; rfl) | rfl)
  all_goals (repeat (first | rfl | split))
theorem lev_drop_any {n : Int} {l : List Int} {i : Nat} (h : i < l.length) : (l.drop i).any (lwBad n) = (lwBad n (l.getD i 0) || (l.drop (i + 1)).any (lwBad n)) := by
  rw [drop_cons h, List.any_cons]
theorem ref_levels_l (n : Int) (l : List Int) (hl : l.length ≤ 100000) : ∀ (d i k : Nat), i + d = l.length → d ≤ k →
    marquetryref11_Levels.l0 (k + 1) n l (i : Int) = if (l.drop i).any (lwBad n) = true then some ([], 2) else marquetryref11_Levels.l0 (k + 1 - d) n l (l.length : Int)
  | 0, i, k, hi, hk => by
    rw [Nat.add_zero] at hi
    rw [hi, List.drop_eq_nil_of_le (by omega), if_neg (by simp)]; rfl
  | d + 1, i, k, hi, hk => by
    have hr : rd l (i : Int) = l.getD i 0 := rfl
    rw [marquetryref11_Levels.l0, if_pos (by omega), if_pos (by omega), hr, lev_drop_any (by omega)]
    by_cases c : l.getD i 0 < 0
    · rw [if_pos c, show lwBad n (l.getD i 0) = true by unfold lwBad; rw [decide_eq_true c]; rfl]; rfl
    rw [if_neg c]
    by_cases e : l.getD i 0 > n
    · rw [if_pos e, show lwBad n (l.getD i 0) = true by unfold lwBad; rw [decide_eq_true (show n < l.getD i 0 from e), Bool.or_true]]; rfl
    · have hb : lwBad n (l.getD i 0) = false := by unfold lwBad; rw [decide_eq_false c, decide_eq_false (show ¬ n < l.getD i 0 from e)]; rfl
      obtain ⟨k, rfl⟩ : ∃ j, k = j + 1 := ⟨k - 1, by omega⟩
      rw [if_neg e, w64s' (by omega), ref_levels_l n l hl d (i + 1) k (by omega) (by omega), show k + 1 + 1 - (d + 1) = k + 1 - d by omega, hb, Bool.false_or]
theorem ref_levels {k : Nat} {m : Int} {l : List Int} (hk : 3000 + 110 * l.length ≤ k) (hl : l.length ≤ 100000) (hx : ∀ x ∈ l, -9223372036854775808 ≤ x ∧ x ≤ 9223372036854775807) : marquetryref11_Levels.f k m l = some (LevelsR m l) := by
  obtain ⟨k, rfl⟩ : ∃ j, k = j + 1 + 1 := ⟨k - 2, by omega⟩
  unfold marquetryref11_Levels.f LevelsR
  by_cases c : m < 0
  · rw [if_pos c, if_pos c, marquetryref11_Levels.j0, if_pos rfl]
  rw [if_neg c, if_neg c]
  by_cases c2 : 255 < m
  · rw [show decide (m > 255) = true from decide_eq_true c2, if_pos c2, marquetryref11_Levels.j0, if_pos rfl]
  have hp := ref_levels_l m l hl l.length 0 k (by omega) (by omega)
  rw [List.drop_zero, show ((0 : Nat) : Int) = 0 from rfl] at hp
  rw [show decide (m > 255) = false from decide_eq_false c2, if_neg c2, marquetryref11_Levels.j0, if_neg (by decide), hp]
  by_cases d : l.any (lwBad m) = true
  · rw [if_pos d, if_pos d]
  rw [if_neg d, if_neg d]
  obtain ⟨j, hj⟩ : ∃ j, k + 1 - l.length = j + 1 := ⟨k - l.length, by omega⟩
  rw [hj, marquetryref11_Levels.l0, if_neg (by omega)]
  by_cases f : 65536 < (l.length : Int)
  · rw [if_pos f, if_pos f]
  rw [if_neg f, if_neg f]
  by_cases g : m = 0
  · rw [if_pos g, if_pos g]
  have hu : IntKind.u64.wrap m = m := by rw [u64w]; omega
  rw [if_neg g, if_neg g, hu, ref_width (by omega) (by omega) (by omega), Option.bind_some, ref_write (by omega) hl hx, Option.bind_some]
theorem WriteR_len (w : Int) (l : List Int) : (WriteR w l).1.length ≤ 1048576 := by
  unfold WriteR
  split
  · simp
  · split
    · split
      · simp
      · split
        · simp
        · simp only []; omega
    · simp
theorem LevelsR_len (m : Int) (l : List Int) : (LevelsR m l).1.length ≤ 1048576 := by
  unfold LevelsR
  split
  · simp
  split
  · simp
  split
  · simp
  split
  · simp
  split
  · simp
  · exact WriteR_len _ _
theorem framed {k : Nat} {m : Int} {l : List Int} (hk : 3000 + 7 * l.length ≤ k) (hl : l.length ≤ 100000) (hx : ∀ x ∈ l, -9223372036854775808 ≤ x ∧ x ≤ 9223372036854775807) : levels_Framed.f k m l = some (FramedR m l) := by
  unfold levels_Framed.f FramedR
  rw [levels_write hk hl hx, Option.bind_some]
  by_cases c : (LevelsR m l).2 = 0
  · rw [if_pos c, if_pos c, c]
    by_cases d : m = 0
    · rw [if_pos d, if_pos d]
    · have hn := LevelsR_len m l
      have hL := LittleR_len (((LevelsR m l).1.length : Nat) : Int) 4
      have hu : IntKind.u64.wrap (((LevelsR m l).1.length : Nat) : Int) = (((LevelsR m l).1.length : Nat) : Int) := by rw [u64w]; omega
      rw [if_neg d, if_neg d, hu, little (by omega) (by omega) (by omega), Option.bind_some, if_pos (by omega)]
  · rw [if_neg c, if_neg c]
theorem ref_framed {k : Nat} {m : Int} {l : List Int} (hk : 3000 + 110 * l.length ≤ k) (hl : l.length ≤ 100000) (hx : ∀ x ∈ l, -9223372036854775808 ≤ x ∧ x ≤ 9223372036854775807) : marquetryref11_Framed.f k m l = some (FramedR m l) := by
  unfold marquetryref11_Framed.f FramedR
  rw [ref_levels hk hl hx, Option.bind_some]
  by_cases c : (LevelsR m l).2 = 0
  · rw [if_pos c, if_pos c, c]
    by_cases d : m = 0
    · rw [if_pos d, if_pos d]
    · have hn := LevelsR_len m l
      have hL := LittleR_len (((LevelsR m l).1.length : Nat) : Int) 4
      have hu : IntKind.u64.wrap (((LevelsR m l).1.length : Nat) : Int) = (((LevelsR m l).1.length : Nat) : Int) := by rw [u64w]; omega
      rw [if_neg d, if_neg d, hu, ref_little (by omega) (by omega) (by omega) (by omega) (by omega), Option.bind_some, if_pos (by omega)]
  · rw [if_neg c, if_neg c]
end Go.Proofs.Ytpibhiacmceekaa.L11
