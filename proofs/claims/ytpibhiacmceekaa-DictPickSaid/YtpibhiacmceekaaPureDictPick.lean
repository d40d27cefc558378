/- DictPick: for all values and numbers, the values by their numbers are told, or refused where a number is out of range. No condition. -/
import Derived.Test.YtpibhiacmceekaaX3
import Derived.Test.YtpibhiacmceekaaX2
import Derived.Test.YtpibhiacmceekaaNx
namespace Go.Proofs.Ytpibhiacmceekaa.Pure
open Go.RowKit Go.Proofs.Ytpibhiacmceekaa.X Go.Proofs.YtpibhiacmceekaaW.PrintWords Go.Proofs.YtpibhiacmceekaaW.PrintLast Go.Proofs.YtpibhiacmceekaaW.PrintMore Go.Proofs.Ytpibhiacmceekaa.Bx Go.Proofs.Ytpibhiacmceekaa.Nx
set_option linter.unusedVariables false

def PickOk (d : List S29) (l : List Int) : Prop := ∀ x ∈ l, 0 ≤ x ∧ x < (d.length : Int)
theorem rd_at (l0 l1 : List Int) (x : Int) : rd (l0 ++ x :: l1) (l0.length : Int) = x := by
  unfold rd
  rw [List.getD_eq_getElem?_getD, show ((l0.length : Int)).toNat = l0.length from rfl, List.getElem?_append_right (Nat.le_refl _)]; simp
theorem w64m {n m : Nat} (h : n + 1 ≤ m) (hm : m ≤ 1000000000) : wrap64 ((n : Int) + 1) = ((n + 1 : Nat) : Int) := by unfold wrap64; omega
theorem pick_l : ∀ (l1 : List Int) (k : Nat) (d out : List S29) (l l0 : List Int), l = l0 ++ l1 → l.length ≤ 1000000 → out.length = l0.length → l1.length < k →
    (PickOk d l1 → dict_Pick.l0 k d out l (l.length : Int) (l0.length : Int) = some (out ++ l1.map (rd_T29 d), 0)) ∧ (¬ PickOk d l1 → dict_Pick.l0 k d out l (l.length : Int) (l0.length : Int) = some ([], 4))
  | [], k, d, out, l, l0, he, hl, ho, hk => by
    obtain ⟨k, rfl⟩ : ∃ j, k = j + 1 := ⟨k - 1, by omega⟩
    rw [List.append_nil] at he
    subst he
    refine ⟨fun _ => ?_, fun h => absurd (by intro x hx; simp at hx) h⟩
    simp only [dict_Pick.l0]
    rw [if_neg (by omega)]; simp
  | x :: l1, k, d, out, l, l0, he, hl, ho, hk => by
    obtain ⟨k, rfl⟩ : ∃ j, k = j + 1 := ⟨k - 1, by omega⟩
    have hll : l.length = l0.length + (l1.length + 1) := by rw [he]; simp
    have hrd : rd l (l0.length : Int) = x := by rw [he]; exact rd_at l0 l1 x
    rw [dict_Pick.l0, hrd, if_pos (by omega), if_pos (by omega), if_pos (by omega)]
    by_cases c0 : x < 0
    · rw [if_pos c0]
      exact ⟨fun h => absurd (h x (by simp)).1 (by omega), fun _ => rfl⟩
    rw [if_neg c0]
    by_cases c1 : x ≥ (d.length : Int)
    · rw [if_pos c1]
      exact ⟨fun h => absurd (h x (by simp)).2 (by omega), fun _ => rfl⟩
    rw [if_neg c1, if_pos (by omega), if_pos (by omega), if_pos (by omega), w64m (m := l.length) (by omega) (by omega)]
    have ih := pick_l l1 k d (out ++ [rd_T29 d x]) l (l0 ++ [x]) (by rw [he]; simp) hl (by simp [ho]) (by simp at hk; omega)
    rw [List.length_append, List.length_singleton] at ih
    refine ⟨fun h => ?_, fun h => ?_⟩
    · have := ih.1 (fun y hy => h y (by simp [hy]))
      rw [List.append_assoc] at this
      exact this
    · refine ih.2 (fun h' => h (fun y hy => ?_))
      rcases List.mem_cons.1 hy with rfl | hy
      · omega
      · exact h' y hy
theorem law_l1 : ∀ (r k : Nat) (d out : List S29) (l : List Int) (i : Nat), PickOk d l → out = l.map (rd_T29 d) → l.length ≤ 1000000 → i + r = l.length → r < k → marquetrylaw12_DictPick.l1 k d l out (i : Int) = some true
  | 0, k, d, out, l, i, ho, he, hl, hi, hk => by
    obtain ⟨k, rfl⟩ : ∃ j, k = j + 1 := ⟨k - 1, by omega⟩
    rw [marquetrylaw12_DictPick.l1, if_neg (by omega)]
  | r + 1, k, d, out, l, i, ho, he, hl, hi, hk => by
    obtain ⟨k, rfl⟩ : ∃ j, k = j + 1 := ⟨k - 1, by omega⟩
    have hil : i < l.length := by omega
    have hx : rd l (i : Int) ∈ l := by
      unfold rd
      rw [List.getD_eq_getElem?_getD, show ((i : Int)).toNat = i from rfl, List.getElem?_eq_getElem hil]; exact List.getElem_mem hil
    have hr := ho _ hx
    have hol : out.length = l.length := by rw [he]; simp
    have ho1 : rd_T29 out (i : Int) = rd_T29 d (rd l (i : Int)) := by
      rw [he]
      show (l.map (rd_T29 d)).getD (i : Int).toNat _ = _
      unfold rd
      rw [List.getD_eq_getElem?_getD, show ((i : Int)).toNat = i from rfl, List.getElem?_map, List.getD_eq_getElem?_getD, List.getElem?_eq_getElem hil]; rfl
    rw [marquetrylaw12_DictPick.l1, if_pos (by omega), if_pos (by omega), if_pos (by omega), if_pos hr.1, if_pos hr.2, ho1, if_neg (by simp), w64m (m := l.length) (by omega) (by omega)]
    exact law_l1 r k d out l (i + 1) ho he hl (by omega) (by omega)
theorem law_ok : ∀ (r k : Nat) (d out : List S29) (l : List Int) (i : Nat), PickOk d l → out = l.map (rd_T29 d) → l.length ≤ 1000000 → i + r = l.length → r + l.length + 3 < k → marquetrylaw12_DictPick.l0 k d l out 0 (i : Int) = some true
  | 0, k, d, out, l, i, ho, he, hl, hi, hk => by
    obtain ⟨k, rfl⟩ : ∃ j, k = j + 1 + 1 := ⟨k - 2, by omega⟩
    have hol : out.length = l.length := by rw [he]; simp
    rw [marquetrylaw12_DictPick.l0, if_neg (by omega), if_pos rfl, hol, bne_self_eq_false, marquetrylaw12_DictPick.j2, if_neg (by decide)]
    exact law_l1 l.length k d out l 0 ho he hl (by omega) (by omega)
  | r + 1, k, d, out, l, i, ho, he, hl, hi, hk => by
    obtain ⟨k, rfl⟩ : ∃ j, k = j + 1 := ⟨k - 1, by omega⟩
    have hil : i < l.length := by omega
    have hx : rd l (i : Int) ∈ l := by
      unfold rd
      rw [List.getD_eq_getElem?_getD, show ((i : Int)).toNat = i from rfl, List.getElem?_eq_getElem hil]; exact List.getElem_mem hil
    have hr := ho _ hx
    rw [marquetrylaw12_DictPick.l0, if_pos (by omega), if_pos (by omega), if_neg (by omega), if_neg (by omega), w64m (m := l.length) (by omega) (by omega)]
    exact law_ok r k d out l (i + 1) ho he hl (by omega) (by omega)
theorem law_bad : ∀ (l1 : List Int) (k : Nat) (d : List S29) (l l0 : List Int), l = l0 ++ l1 → ¬ PickOk d l1 → l.length ≤ 1000000 → l1.length < k → marquetrylaw12_DictPick.l0 k d l [] 4 (l0.length : Int) = some true
  | [], k, d, l, l0, he, hb, hl, hk => absurd (by intro x hx; simp at hx) hb
  | x :: l1, k, d, l, l0, he, hb, hl, hk => by
    obtain ⟨k, rfl⟩ : ∃ j, k = j + 1 := ⟨k - 1, by omega⟩
    have hll : l.length = l0.length + (l1.length + 1) := by rw [he]; simp
    have hrd : rd l (l0.length : Int) = x := by rw [he]; exact rd_at l0 l1 x
    rw [marquetrylaw12_DictPick.l0, hrd, if_pos (by omega), if_pos (by omega)]
    by_cases c0 : x < 0
    · rw [if_pos c0]; rfl
    rw [if_neg c0]
    by_cases c1 : x ≥ (d.length : Int)
    · rw [if_pos c1]; rfl
    rw [if_neg c1, w64m (m := l.length) (by omega) (by omega)]
    have ih := law_bad l1 k d l (l0 ++ [x]) (by rw [he]; simp) (fun h => hb (fun y hy => by
      rcases List.mem_cons.1 hy with rfl | hy
      · omega
      · exact h y hy)) hl (by simp at hk; omega)
    rw [List.length_append, List.length_singleton] at ih
    exact ih

theorem DictPick : marquetrylaw12_DictPick.Pure := by
  intro d l _ _
  refine ⟨1000, ?_⟩
  unfold marquetrylaw12_DictPick.f
  by_cases c : (d.length : Int) > 200
  · rw [if_pos c, marquetrylaw12_DictPick.j0, if_pos rfl]
  rw [if_neg c]
  by_cases e : (l.length : Int) > 200
  · rw [decide_eq_true e, marquetrylaw12_DictPick.j0, if_pos rfl]
  rw [decide_eq_false e, marquetrylaw12_DictPick.j0, if_neg (by decide)]
  have p := pick_l l 999 d [] l [] rfl (by omega) rfl (by omega)
  unfold dict_Pick.f
  by_cases h : PickOk d l
  · have := p.1 h
    rw [show ((([] : List Int).length : Nat) : Int) = 0 from rfl] at this
    rw [this, Option.bind_some]
    exact law_ok l.length 999 d _ l 0 h (by simp) (by omega) (by omega) (by omega)
  · have := p.2 h
    rw [show ((([] : List Int).length : Nat) : Int) = 0 from rfl] at this
    rw [this, Option.bind_some]
    exact law_bad l 999 d l [] rfl h (by omega) (by omega)

end Go.Proofs.Ytpibhiacmceekaa.Pure
