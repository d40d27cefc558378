/- Layer 11, writing: both sides, whole; and SameInts. -/
import Derived.Test.YtpibhiacmceekaaX10
import Derived.Test.YtpibhiacmceekaaX14
import Derived.Test.YtpibhiacmceekaaX15
import Derived.Test.YtpibhiacmceekaaL11r
namespace Go.Proofs.Ytpibhiacmceekaa.L11
set_option linter.unusedVariables false
set_option linter.unusedSimpArgs false
open Go.RowKit Go.Proofs.Ytpibhiacmceekaa.X Go.Proofs.YtpibhiacmceekaaW.PrintWords Go.Proofs.YtpibhiacmceekaaW.PrintLast Go.Proofs.YtpibhiacmceekaaW.PrintMore Go.Proofs.Ytpibhiacmceekaa.Bx Go.Proofs.Ytpibhiacmceekaa.Nx Go.Proofs.Ytpibhiacmceekaa.L1 Go.Proofs.Ytpibhiacmceekaa.Px

/-- May numbers be told in W bits? -/
def okN (W : Nat) (l : List Int) : Prop := ∀ x ∈ l, 0 ≤ x ∧ wd x.toNat ≤ W
instance (W : Nat) (l : List Int) : Decidable (okN W l) := by unfold okN; exact inferInstance
/-- What Write answers. -/
def WriteR (w : Int) (l : List Int) : List Int × Int :=
  if w < 0 ∨ 32 < w then ([], 2) else if okN w.toNat l then (if 65536 < l.length then ([], 3) else if 1048576 < (toldS w.toNat l.length l).length then ([], 3) else (toldS w.toNat l.length l, 0)) else ([], 2)
theorem okN_cons {W : Nat} {x : Int} {l : List Int} : okN W (x :: l) ↔ (0 ≤ x ∧ wd x.toNat ≤ W) ∧ okN W l := by
  unfold okN
  constructor
  · intro h; exact ⟨h x (by simp), fun y hy => h y (by simp [hy])⟩
  · intro h y hy
    rcases List.mem_cons.1 hy with rfl | hy
    · exact h.1
    · exact h.2 y hy
theorem okN_drop {W : Nat} {l : List Int} {i : Nat} (h : i < l.length) : okN W (l.drop i) ↔ (0 ≤ l.getD i 0 ∧ wd (l.getD i 0).toNat ≤ W) ∧ okN W (l.drop (i + 1)) := by
  rw [drop_cons h, okN_cons]
theorem prog_checks (W : Nat) (hW : W ≤ 32) (l : List Int) (hl : l.length ≤ 100000) (hx : ∀ x ∈ l, -9223372036854775808 ≤ x ∧ x ≤ 9223372036854775807) : ∀ (d i k : Nat), i + d = l.length → 65 + d ≤ k →
    hybrid_Write.l0 (k + 1) (W : Int) l l (l.length : Int) (i : Int) = if okN W (l.drop i) then hybrid_Write.l0 (k + 1 - d) (W : Int) l l (l.length : Int) (l.length : Int) else some ([], 2)
  | 0, i, k, hi, hk => by
    rw [Nat.add_zero] at hi
    rw [hi, List.drop_eq_nil_of_le (by omega), if_pos (by simp [okN])]; rfl
  | d + 1, i, k, hi, hk => by
    have hr : rd l (i : Int) = l.getD i 0 := rfl
    have hg : -9223372036854775808 ≤ l.getD i 0 ∧ l.getD i 0 ≤ 9223372036854775807 := by
      rw [List.getD_eq_getElem?_getD, List.getElem?_eq_getElem (by omega)]; exact hx _ (List.getElem_mem (by omega))
    rw [hybrid_Write.l0, if_pos (by omega), if_pos (by omega), if_pos (by omega), hr]
    have hd := okN_drop (W := W) (l := l) (i := i) (by omega)
    by_cases c : l.getD i 0 < 0
    · rw [if_pos c, if_neg (fun h => by have := (hd.1 h).1.1; omega)]
    · have hw : IntKind.u64.wrap (l.getD i 0) = l.getD i 0 := by rw [u64w]; omega
      rw [if_neg c, hw, width (by omega) (by omega) (by omega), Option.bind_some]
      by_cases e : wd (l.getD i 0).toNat ≤ W
      · obtain ⟨k, rfl⟩ : ∃ j, k = j + 1 := ⟨k - 1, by omega⟩
        rw [if_neg (by omega), w64s' (by omega), prog_checks W hW l hl hx d (i + 1) k (by omega) (by omega), show k + 1 + 1 - (d + 1) = k + 1 - d by omega]
        by_cases g : okN W (l.drop (i + 1))
        · rw [if_pos g, if_pos (hd.2 ⟨⟨by omega, e⟩, g⟩)]
        · rw [if_neg g, if_neg (fun h => g (hd.1 h).2)]
      · rw [if_pos (by omega), if_neg (fun h => e (hd.1 h).1.2)]
theorem okN_range {W : Nat} {l : List Int} (h : okN W l) (hx : ∀ x ∈ l, -9223372036854775808 ≤ x ∧ x ≤ 9223372036854775807) : ∀ x ∈ l, 0 ≤ x ∧ x ≤ 9223372036854775807 := fun x hm => ⟨(h x hm).1, (hx x hm).2⟩
theorem write {k : Nat} {w : Int} {l : List Int} (hk : 2000 + 7 * l.length ≤ k) (hl : l.length ≤ 100000) (hx : ∀ x ∈ l, -9223372036854775808 ≤ x ∧ x ≤ 9223372036854775807) : hybrid_Write.f k w l = some (WriteR w l) := by
  obtain ⟨k, rfl⟩ : ∃ j, k = j + 1 := ⟨k - 1, by omega⟩
  unfold hybrid_Write.f WriteR
  by_cases c : w < 0
  · rw [if_pos c, if_pos (.inl c), hybrid_Write.j0, if_pos rfl]
  rw [if_neg c]
  by_cases d : w > 32
  · rw [decide_eq_true d, if_pos (.inr (by omega)), hybrid_Write.j0, if_pos rfl]
  obtain ⟨W, rfl⟩ := Int.eq_ofNat_of_zero_le (show 0 ≤ w by omega)
  obtain ⟨k, rfl⟩ : ∃ j, k = j + 1 := ⟨k - 1, by omega⟩
  have hp := prog_checks W (by omega) l hl hx l.length 0 k (by omega) (by omega)
  rw [List.drop_zero, show ((0 : Nat) : Int) = 0 from rfl] at hp
  rw [decide_eq_false d, if_neg (by omega), hybrid_Write.j0, if_neg (by decide), hp, show ((W : Int)).toNat = W from rfl]
  clear hp
  by_cases e : okN W l
  · rw [if_pos e, if_pos e]
    obtain ⟨j, hj⟩ : ∃ j, k + 1 - l.length = j + 1 := ⟨k - l.length, by omega⟩
    rw [hj, hybrid_Write.l0, if_neg (by omega)]
    by_cases g : 65536 < l.length
    · rw [if_pos (by omega), if_pos g]
    · rw [if_neg (by omega), if_neg g, prog_told W (by omega) l.length l j [] (Nat.le_refl _) (by omega) (okN_range e hx) (by simp; omega) (by omega), List.nil_append]
      by_cases m : 1048576 < (toldS W l.length l).length
      · rw [if_pos m, if_pos (by omega)]
      · rw [if_neg m, if_neg (by omega)]
  · rw [if_neg e, if_neg e]
theorem ref_checks (W : Nat) (hW : W ≤ 32) (l : List Int) (hl : l.length ≤ 100000) (hx : ∀ x ∈ l, -9223372036854775808 ≤ x ∧ x ≤ 9223372036854775807) : ∀ (d i k : Nat), i + d = l.length → 65 + d ≤ k →
    marquetryref11_Write.l0 (k + 1) (W : Int) l (i : Int) = if okN W (l.drop i) then marquetryref11_Write.l0 (k + 1 - d) (W : Int) l (l.length : Int) else some ([], 2)
  | 0, i, k, hi, hk => by
    rw [Nat.add_zero] at hi
    rw [hi, List.drop_eq_nil_of_le (by omega), if_pos (by simp [okN])]; rfl
  | d + 1, i, k, hi, hk => by
    have hr : rd l (i : Int) = l.getD i 0 := rfl
    have hg : -9223372036854775808 ≤ l.getD i 0 ∧ l.getD i 0 ≤ 9223372036854775807 := by
      rw [List.getD_eq_getElem?_getD, List.getElem?_eq_getElem (by omega)]; exact hx _ (List.getElem_mem (by omega))
    rw [marquetryref11_Write.l0, if_pos (by omega), if_pos (by omega), hr]
    have hd := okN_drop (W := W) (l := l) (i := i) (by omega)
    by_cases c : l.getD i 0 < 0
    · rw [if_pos c, if_neg (fun h => by have := (hd.1 h).1.1; omega)]
    · have hw : IntKind.u64.wrap (l.getD i 0) = l.getD i 0 := by rw [u64w]; omega
      rw [if_neg c, hw, ref_width (by omega) (by omega) (by omega), Option.bind_some]
      by_cases e : wd (l.getD i 0).toNat ≤ W
      · obtain ⟨k, rfl⟩ : ∃ j, k = j + 1 := ⟨k - 1, by omega⟩
        rw [if_neg (by omega), w64s' (by omega), ref_checks W hW l hl hx d (i + 1) k (by omega) (by omega), show k + 1 + 1 - (d + 1) = k + 1 - d by omega]
        by_cases g : okN W (l.drop (i + 1))
        · rw [if_pos g, if_pos (hd.2 ⟨⟨by omega, e⟩, g⟩)]
        · rw [if_neg g, if_neg (fun h => g (hd.1 h).2)]
      · rw [if_pos (by omega), if_neg (fun h => e (hd.1 h).1.2)]
theorem told {k : Nat} {W : Nat} {l : List Int} (hW : W ≤ 32) (hk : 2000 + 100 * l.length ≤ k) (hl : l.length ≤ 100000) (hx : ∀ x ∈ l, 0 ≤ x ∧ x ≤ 9223372036854775807) : marquetryref11_Told.f k (W : Int) l = some (toldS W l.length l) := by
  unfold marquetryref11_Told.f
  have := ref_told W hW l hl hx l.length 0 k [] (by omega) (by omega) (by simp; omega) (by omega)
  rwa [List.drop_zero, List.nil_append] at this
theorem ref_write {k : Nat} {w : Int} {l : List Int} (hk : 2200 + 102 * l.length ≤ k) (hl : l.length ≤ 100000) (hx : ∀ x ∈ l, -9223372036854775808 ≤ x ∧ x ≤ 9223372036854775807) : marquetryref11_Write.f k w l = some (WriteR w l) := by
  obtain ⟨k, rfl⟩ : ∃ j, k = j + 1 := ⟨k - 1, by omega⟩
  unfold marquetryref11_Write.f WriteR
  by_cases c : w < 0
  · rw [if_pos c, if_pos (.inl c), marquetryref11_Write.j0, if_pos rfl]
  rw [if_neg c]
  by_cases d : w > 32
  · rw [decide_eq_true d, if_pos (.inr (by omega)), marquetryref11_Write.j0, if_pos rfl]
  obtain ⟨W, rfl⟩ := Int.eq_ofNat_of_zero_le (show 0 ≤ w by omega)
  obtain ⟨k, rfl⟩ : ∃ j, k = j + 1 := ⟨k - 1, by omega⟩
  have hp := ref_checks W (by omega) l hl hx l.length 0 k (by omega) (by omega)
  rw [List.drop_zero, show ((0 : Nat) : Int) = 0 from rfl] at hp
  rw [decide_eq_false d, if_neg (by omega), marquetryref11_Write.j0, if_neg (by decide), hp, show ((W : Int)).toNat = W from rfl]
  clear hp
  by_cases e : okN W l
  · rw [if_pos e, if_pos e]
    obtain ⟨j, hj⟩ : ∃ j, k + 1 - l.length = j + 1 := ⟨k - l.length, by omega⟩
    rw [hj, marquetryref11_Write.l0, if_neg (by omega)]
    by_cases g : 65536 < l.length
    · rw [if_pos (by omega), if_pos g]
    · rw [if_neg (by omega), if_neg g, told (by omega) (by omega) (by omega) (okN_range e hx), Option.bind_some]
      by_cases m : 1048576 < (toldS W l.length l).length
      · rw [if_pos m, if_pos (by omega)]
      · rw [if_neg m, if_neg (by omega)]
  · rw [if_neg e, if_neg e]
theorem sameInts_l : ∀ (d i k : Nat) (a b : List Int), a.length ≤ 100000000 → a.length = b.length → i + d = a.length → d < k → marquetryref11_SameInts.l0 k a b (i : Int) = some (decide (a.drop i = b.drop i))
  | 0, i, k, a, b, hl, hab, hi, hk => by
    obtain ⟨k, rfl⟩ : ∃ j, k = j + 1 := ⟨k - 1, by omega⟩
    rw [marquetryref11_SameInts.l0, if_neg (by omega), List.drop_eq_nil_of_le (by omega), List.drop_eq_nil_of_le (by omega)]; rfl
  | d + 1, i, k, a, b, hl, hab, hi, hk => by
    obtain ⟨k, rfl⟩ : ∃ j, k = j + 1 := ⟨k - 1, by omega⟩
    have ha : rd a (i : Int) = a.getD i 0 := rfl
    have hb : rd b (i : Int) = b.getD i 0 := rfl
    rw [marquetryref11_SameInts.l0, if_pos (by omega), if_pos (by omega), if_pos (by omega), ha, hb, w64s' (by omega), drop_cons (l := a) (by omega), drop_cons (l := b) (by omega)]
    by_cases c : a.getD i 0 = b.getD i 0
    · rw [if_pos c, sameInts_l d (i + 1) k a b hl hab (by omega) (by omega), c]
      simp
    · rw [if_neg c, decide_eq_false (fun h => c (List.cons.inj h).1)]
theorem sameInts {k : Nat} {a b : List Int} (hl : a.length ≤ 100000000) (hk : a.length < k) : marquetryref11_SameInts.f k a b = some (decide (a = b)) := by
  unfold marquetryref11_SameInts.f
  by_cases c : a.length = b.length
  · have := sameInts_l a.length 0 k a b hl c (by omega) hk
    rw [List.drop_zero, List.drop_zero] at this
    rw [if_pos (by omega)]; exact this
  · rw [if_neg (by omega), decide_eq_false (fun h => c (by rw [h]))]
end Go.Proofs.Ytpibhiacmceekaa.L11
