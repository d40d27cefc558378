/- DictWrite: for every size and numbers the program's bytes are the reference's, or both refuse alike. No condition. -/
import Derived.Test.YtpibhiacmceekaaX17
import Derived.Test.YtpibhiacmceekaaL11x
namespace Go.Proofs.Ytpibhiacmceekaa.Pure
open Go.RowKit Go.Proofs.Ytpibhiacmceekaa.X Go.Proofs.YtpibhiacmceekaaW.PrintWords Go.Proofs.YtpibhiacmceekaaW.PrintLast Go.Proofs.YtpibhiacmceekaaW.PrintMore Go.Proofs.Ytpibhiacmceekaa.Bx Go.Proofs.Ytpibhiacmceekaa.Nx Go.Proofs.Ytpibhiacmceekaa.L1 Go.Proofs.Ytpibhiacmceekaa.L11
set_option linter.unusedVariables false
set_option linter.unusedSimpArgs false

theorem told_len (W : Nat) : ∀ (f : Nat) (l : List Int), l.length ≤ 100000 → (toldS W f l).length ≤ l.length * 1100000
  | 0, l, hl => by simp [toldS]
  | f + 1, l, hl => by
    rw [toldS]
    by_cases c : l.length = 0
    · rw [if_pos c]; simp
    rw [if_neg c]
    by_cases d : 8 ≤ sameN l
    · have hr := runS_len W l hl
      have hd : (l.drop (sameN l)).length ≤ l.length - 8 := by rw [List.length_drop]; omega
      have ih := told_len W f (l.drop (sameN l)) (by omega)
      rw [if_pos d]
      have e : (vb (2 * sameN l) ++ (LittleR (l.getD 0 0) (((W + 7) / 8 : Nat) : Int)).1 ++ toldS W f (l.drop (sameN l))).length = (runS W l).length + (toldS W f (l.drop (sameN l))).length := by rw [List.length_append]; rfl
      rw [e]; omega
    · have hp1 := packsN_pos (l := l) (by omega)
      have hp2 := packsN_le l l.length 0 (by omega)
      rw [if_neg d]
      obtain ⟨n, hn⟩ : ∃ n, n = packsN l l.length 0 := ⟨_, rfl⟩
      rw [← hn] at hp1 hp2 ⊢
      have hr := packS_len W n l (by omega)
      have hd : (l.drop n).length = l.length - n := List.length_drop
      have ih := told_len W f (l.drop n) (by omega)
      have e : (vb ((n + 7) / 8 * 2 + 1) ++ (PackR (W : Int) (fillN (l.take n) ((n + 7) / 8 * 8))).1 ++ toldS W f (l.drop n)).length = (packS W n l).length + (toldS W f (l.drop n)).length := by rw [List.length_append]; rfl
      rw [e]; omega
theorem wd_mono {a b : Nat} (h : a ≤ b) : wd a ≤ wd b := (wd_le (wd b) a).2 (Nat.lt_of_le_of_lt h ((wd_le (wd b) b).1 (Nat.le_refl _)))
/-- The width of a dictionary's numbers. -/
def dwW (n : Int) : Nat := wd (n - 1).toNat
theorem dwW_le {n : Int} (h : n ≤ 65536) : dwW n ≤ 16 := (wd_le 16 _).2 (by omega)
theorem not_bad {n : Int} {l : List Int} (h : ¬ l.any (dwBad n) = true) : ∀ x ∈ l, 0 ≤ x ∧ x < n := by
  intro x hx
  have : dwBad n x = false := by
    cases hb : dwBad n x with
    | false => rfl
    | true => exact absurd (List.any_eq_true.2 ⟨x, hx, hb⟩) h
  unfold dwBad at this
  simp at this
  omega
theorem ok_dict {n : Int} {l : List Int} (h : ∀ x ∈ l, 0 ≤ x ∧ x < n) : okN (dwW n) l := fun x hx => ⟨(h x hx).1, wd_mono (by have := h x hx; omega)⟩
def DictWriteR (n : Int) (l : List Int) : List Int × Int :=
  if n < 0 then ([], 2) else if l.any (dwBad n) = true then ([], 2) else if 65536 < n then ([], 3) else if 65536 < (l.length : Int) then ([], 3) else
    if 1048576 ≤ (toldS (dwW n) l.length l).length then ([], 3) else ([((dwW n : Nat) : Int)] ++ toldS (dwW n) l.length l, 0)
theorem dict_write {k : Nat} {n : Int} {l : List Int} (hk : 3000 + 7 * l.length ≤ k) (hl : l.length ≤ 100000) (hx : ∀ x ∈ l, -9223372036854775808 ≤ x ∧ x ≤ 9223372036854775807) : dict_Write.f k n l = some (DictWriteR n l) := by
  unfold dict_Write.f DictWriteR
  by_cases c : n < 0
  · rw [if_pos c, if_pos c]
  rw [if_neg c, if_neg c]
  by_cases d : l.any (dwBad n) = true
  · rw [if_pos d, if_pos d]
  rw [if_neg d, if_neg d]
  by_cases e : 65536 < n
  · rw [if_pos e, if_pos e]
  rw [if_neg e, if_neg e]
  by_cases f : 65536 < (l.length : Int)
  · rw [if_pos f, if_pos f]
  have hnb := not_bad d
  have hW := dwW_le (n := n) (by omega)
  have hw : (max 0 (n - 1)).toNat = (n - 1).toNat := by omega
  rw [if_neg f, if_neg f, width (by omega) (by omega) (by omega), Option.bind_some, hw, show wd (n - 1).toNat = dwW n from rfl, write (by omega) hl hx, Option.bind_some]
  have hWR : WriteR ((dwW n : Nat) : Int) l = if 1048576 < (toldS (dwW n) l.length l).length then ([], 3) else (toldS (dwW n) l.length l, 0) := by
    unfold WriteR
    rw [if_neg (by omega), show ((dwW n : Nat) : Int).toNat = dwW n from rfl, if_pos (ok_dict hnb), if_neg (by omega)]
  rw [hWR]
  clear hWR
  by_cases g : 1048576 < (toldS (dwW n) l.length l).length
  · rw [if_pos g, if_neg (by decide), if_pos (by omega)]
  · rw [if_neg g, if_pos rfl]
    by_cases m : 1048576 ≤ (toldS (dwW n) l.length l).length
    · rw [if_pos (by show (1048576 : Int) ≤ ((toldS (dwW n) l.length l).length : Int); omega), if_pos m]
    · rw [if_neg (by show ¬ (1048576 : Int) ≤ ((toldS (dwW n) l.length l).length : Int); omega), if_neg m, show (((dwW n : Nat) : Int)) % 256 = ((dwW n : Nat) : Int) by omega]
theorem dict_drop_any {n : Int} {l : List Int} {i : Nat} (h : i < l.length) : (l.drop i).any (dwBad n) = (dwBad n (l.getD i 0) || (l.drop (i + 1)).any (dwBad n)) := by
  rw [drop_cons h, List.any_cons]
theorem ref_dict_l (n : Int) (l : List Int) (hl : l.length ≤ 100000) : ∀ (d i k : Nat), i + d = l.length → d ≤ k →
    marquetryref11_DictWrite.l0 (k + 1) n l (i : Int) = if (l.drop i).any (dwBad n) = true then some ([], 2) else marquetryref11_DictWrite.l0 (k + 1 - d) n l (l.length : Int)
  | 0, i, k, hi, hk => by
    rw [Nat.add_zero] at hi
    rw [hi, List.drop_eq_nil_of_le (by omega), if_neg (by simp)]; rfl
  | d + 1, i, k, hi, hk => by
    have hr : rd l (i : Int) = l.getD i 0 := rfl
    rw [marquetryref11_DictWrite.l0, if_pos (by omega), if_pos (by omega), hr, dict_drop_any (by omega)]
    by_cases c : l.getD i 0 < 0
    · rw [if_pos c, show dwBad n (l.getD i 0) = true by unfold dwBad; rw [decide_eq_true c]; rfl]; rfl
    rw [if_neg c]
    by_cases e : l.getD i 0 ≥ n
    · rw [if_pos e, show dwBad n (l.getD i 0) = true by unfold dwBad; rw [decide_eq_true (show n ≤ l.getD i 0 from e), Bool.or_true]]; rfl
    · have hb : dwBad n (l.getD i 0) = false := by unfold dwBad; rw [decide_eq_false c, decide_eq_false (show ¬ n ≤ l.getD i 0 from e)]; rfl
      obtain ⟨k, rfl⟩ : ∃ j, k = j + 1 := ⟨k - 1, by omega⟩
      rw [if_neg e, w64s' (by omega), ref_dict_l n l hl d (i + 1) k (by omega) (by omega), show k + 1 + 1 - (d + 1) = k + 1 - d by omega, hb, Bool.false_or]
theorem ref_dict_write {k : Nat} {n : Int} {l : List Int} (hk : 3000 + 110 * l.length ≤ k) (hl : l.length ≤ 100000) (hx : ∀ x ∈ l, -9223372036854775808 ≤ x ∧ x ≤ 9223372036854775807) : marquetryref11_DictWrite.f k n l = some (DictWriteR n l) := by
  unfold marquetryref11_DictWrite.f DictWriteR
  by_cases c : n < 0
  · rw [if_pos c, if_pos c]
  obtain ⟨k, rfl⟩ : ∃ j, k = j + 1 := ⟨k - 1, by omega⟩
  have hp := ref_dict_l n l hl l.length 0 k (by omega) (by omega)
  rw [List.drop_zero, show ((0 : Nat) : Int) = 0 from rfl] at hp
  rw [if_neg c, if_neg c, hp]
  by_cases d : l.any (dwBad n) = true
  · rw [if_pos d, if_pos d]
  rw [if_neg d, if_neg d]
  obtain ⟨j, hj⟩ : ∃ j, k + 1 - l.length = j + 1 + 1 := ⟨k - l.length - 1, by omega⟩
  rw [hj, marquetryref11_DictWrite.l0, if_neg (by omega)]
  by_cases e : 65536 < n
  · rw [if_pos e, if_pos e, marquetryref11_DictWrite.j1, if_pos rfl]
  rw [if_neg (by omega), if_neg e]
  by_cases f : 65536 < (l.length : Int)
  · rw [if_pos f, show decide ((l.length : Int) > 65536) = true from decide_eq_true f, marquetryref11_DictWrite.j1, if_pos rfl]
  have hnb := not_bad d
  have hW := dwW_le (n := n) (by omega)
  have hlen := told_len (dwW n) l.length l (by omega)
  have hx' : ∀ x ∈ l, 0 ≤ x ∧ x ≤ 9223372036854775807 := fun x h => ⟨(hnb x h).1, (hx x h).2⟩
  have hT := told (k := j) (W := dwW n) (l := l) (by omega) (by omega) hl hx'
  have hwrap : wrap64 (((toldS (dwW n) l.length l).length : Int) + 1) = (((toldS (dwW n) l.length l).length + 1 : Nat) : Int) := by unfold wrap64; omega
  have hm : ((((toldS (dwW n) l.length l).length + 1 : Nat) : Int) > 1048576) ↔ 1048576 ≤ (toldS (dwW n) l.length l).length := by omega
  rw [if_neg f, show decide ((l.length : Int) > 65536) = false from decide_eq_false f, marquetryref11_DictWrite.j1, if_neg (by decide)]
  by_cases g : n > 0
  · have hu : IntKind.u64.wrap (wrap64 (n - 1)) = n - 1 := by rw [w64 (by omega) (by omega), u64w]; omega
    rw [if_pos g, hu, ref_width (by omega) (by omega) (by omega), Option.bind_some, show wd (n - 1).toNat = dwW n from rfl, hT, Option.bind_some, hwrap]
    by_cases m : 1048576 ≤ (toldS (dwW n) l.length l).length
    · rw [if_pos (hm.2 m), if_pos m]
    · rw [if_neg (fun h => m (hm.1 h)), if_neg m, Option.bind_some, if_pos (by simp; omega), show (((dwW n : Nat) : Int)) % 256 = ((dwW n : Nat) : Int) by omega]
  · have h0 : dwW n = 0 := by unfold dwW; rw [show (n - 1).toNat = 0 by omega, wd_zero]
    rw [h0] at hT hwrap hm ⊢
    rw [if_neg g, show (0 : Int) = ((0 : Nat) : Int) from rfl, hT, Option.bind_some, hwrap]
    by_cases m : 1048576 ≤ (toldS 0 l.length l).length
    · rw [if_pos (hm.2 m), if_pos m]
    · rw [if_neg (fun h => m (hm.1 h)), if_neg m, Option.bind_some, if_pos (by simp; rw [h0] at hlen; omega)]

theorem DictWrite : marquetrylaw12_DictWrite.Pure := by
  intro n l hn hl
  have hx : ∀ x ∈ l, -9223372036854775808 ≤ x ∧ x ≤ 9223372036854775807 := fun x h => wf_i64 (hl.1 x h)
  refine ⟨100000, ?_⟩
  unfold marquetrylaw12_DictWrite.f
  by_cases c : (l.length : Int) > 400
  · rw [if_pos c]
  rw [if_neg c, dict_write (by omega) (by omega) hx, Option.bind_some, ref_dict_write (by omega) (by omega) hx, Option.bind_some, if_pos rfl]
  simp
end Go.Proofs.Ytpibhiacmceekaa.Pure
