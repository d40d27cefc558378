/- DictMake: the dictionary is each value once, in the order in which they come first; its values by the numbers are the values. No condition. -/
import Derived.Test.YtpibhiacmceekaaGDictMake0
import Derived.Laws.Strings
import Derived.WideShapes
namespace Go.Proofs.Ytpibhiacmceekaa.Pure
open Go.RowKit Go.Proofs.Ytpibhiacmceekaa.X Go.Proofs.YtpibhiacmceekaaW.PrintWords Go.Proofs.YtpibhiacmceekaaW.PrintLast Go.Proofs.YtpibhiacmceekaaW.PrintMore Go.Proofs.Ytpibhiacmceekaa.Bx Go.Proofs.Ytpibhiacmceekaa.Nx Go.Proofs.Ytpibhiacmceekaa.L12
set_option linter.unusedVariables false
set_option linter.unusedSimpArgs false

theorem dm_eqB (a b : S29) : (a.f0 == b.f0 && (a.f1 == b.f1 && (a.f2.toList == b.f2.toList))) = decide (a = b) := by
  by_cases h : a = b
  · subst h; simp
  · rw [decide_eq_false h]
    cases hc : (a.f0 == b.f0 && (a.f1 == b.f1 && (a.f2.toList == b.f2.toList))) with
    | false => rfl
    | true =>
      simp only [Bool.and_eq_true, beq_iff_eq] at hc
      obtain ⟨h0, h1, h2⟩ := hc
      rw [ByteArray.toList_eq, ByteArray.toList_eq] at h2
      have h3 := WideShapes.bytes_inj h2
      exact absurd (by cases a; cases b; simp only at h0 h1 h3; rw [h0, h1, h3]) h
theorem dm_neB (a b : S29) : (!(a.f0 == b.f0) || (!(a.f1 == b.f1) || !(a.f2.toList == b.f2.toList))) = !decide (a = b) := by
  rw [← dm_eqB]
  cases (a.f0 == b.f0) <;> cases (a.f1 == b.f1) <;> cases (a.f2.toList == b.f2.toList) <;> rfl
theorem sameAll_l (a : List S29) (hl : a.length ≤ 1000000) : ∀ (r i k : Nat), i + r = a.length → r < k → marquetryref09_SameAll.l0 k a a (i : Int) = some true
  | 0, i, k, hi, hk => by
    obtain ⟨k, rfl⟩ : ∃ j, k = j + 1 := ⟨k - 1, by omega⟩
    rw [marquetryref09_SameAll.l0, if_neg (by omega)]
  | r + 1, i, k, hi, hk => by
    obtain ⟨k, rfl⟩ : ∃ j, k = j + 1 := ⟨k - 1, by omega⟩
    rw [marquetryref09_SameAll.l0, if_pos (by omega), if_pos (by omega), if_pos (by omega), dm_neB, decide_eq_true rfl, if_neg (by decide), w64m (m := a.length) (by omega) (by omega)]
    exact sameAll_l a hl r (i + 1) k (by omega) (by omega)
theorem sameAll {a : List S29} (hl : a.length ≤ 1000000) {k : Nat} (hk : a.length < k) : marquetryref09_SameAll.f k a a = some true := by
  unfold marquetryref09_SameAll.f
  rw [if_pos rfl]
  exact sameAll_l a hl a.length 0 k (by omega) hk
/-- The dictionary, as the document makes it. -/
def wantS : List S29 → List S29 → List S29
  | d, [] => d
  | d, x :: t => if dmPos x d < d.length then wantS d t else wantS (d ++ [x]) t
theorem go_want : ∀ (l d : List S29) (n : List Int), (dmGo d n l).1 = wantS d l
  | [], d, n => rfl
  | x :: t, d, n => by
    rw [dmGo, wantS]
    by_cases c : dmPos x d < d.length
    · rw [if_pos c, if_pos c]; exact go_want t d _
    · rw [if_neg c, if_neg c]; exact go_want t (d ++ [x]) _
theorem pos_rd (x : S29) : ∀ d : List S29, dmPos x d < d.length → d.getD (dmPos x d) z29 = x
  | [], h => absurd h (Nat.lt_irrefl _)
  | y :: t, h => by
    rw [dmPos] at h ⊢
    by_cases c : y = x
    · rw [if_pos c]; exact c
    · rw [if_neg c] at h ⊢
      rw [List.getD_cons_succ]
      exact pos_rd x t (by simp at h; omega)
theorem rd_app {d e : List S29} {p : Nat} (h : p < d.length) : rd_T29 (d ++ e) (p : Int) = d.getD p z29 := by
  unfold rd_T29
  rw [show ((p : Int)).toNat = p from rfl, List.getD_eq_getElem?_getD, List.getD_eq_getElem?_getD, List.getElem?_append_left h]
theorem go_facts : ∀ (l d : List S29) (n : List Int), (∃ e, (dmGo d n l).1 = d ++ e) ∧ ∃ m, (dmGo d n l).2 = n ++ m ∧ m.map (rd_T29 (dmGo d n l).1) = l ∧ PickOk (dmGo d n l).1 m
  | [], d, n => ⟨⟨[], by simp [dmGo]⟩, [], by simp [dmGo], rfl, fun x hx => by cases hx⟩
  | x :: t, d, n => by
    rw [dmGo]
    by_cases c : dmPos x d < d.length
    · rw [if_pos c]
      obtain ⟨⟨e, he⟩, m, h1, h2, h3⟩ := go_facts t d (n ++ [((dmPos x d : Nat) : Int)])
      refine ⟨⟨e, he⟩, ((dmPos x d : Nat) : Int) :: m, by rw [h1]; simp, ?_, ?_⟩
      · rw [List.map_cons, h2, he, rd_app c, pos_rd x d c]
      · intro y hy
        rcases List.mem_cons.1 hy with rfl | hy
        · rw [he, List.length_append]; omega
        · exact h3 y hy
    · rw [if_neg c]
      obtain ⟨⟨e, he⟩, m, h1, h2, h3⟩ := go_facts t (d ++ [x]) (n ++ [(d.length : Int)])
      have hl : d.length < (d ++ [x]).length := by simp
      refine ⟨⟨[x] ++ e, by rw [he]; simp⟩, (d.length : Int) :: m, by rw [h1]; simp, ?_, ?_⟩
      · rw [List.map_cons, h2, he, rd_app hl]
        simp
      · intro y hy
        rcases List.mem_cons.1 hy with rfl | hy
        · rw [he, List.length_append]; omega
        · exact h3 y hy
theorem dm_drop' {l : List S29} {i : Nat} (h : i < l.length) : l.drop i = rd_T29 l (i : Int) :: l.drop (i + 1) := dm_drop h
theorem dm_l1 (x0 x3 : List S29) (x4 : List Int) (x5 : List S29) (i : Nat) (hi : i < x0.length) (h0 : x0.length ≤ 1000) (h5 : x5.length ≤ 1000) : ∀ (r j k : Nat) (b : Bool), j + r = x5.length →
    marquetrylaw12_DictMake.l1 (k + r + 1) x0 x3 x4 x5 (i : Int) b (j : Int) = if b = true ∨ dmPos (rd_T29 x0 (i : Int)) (x5.drop j) < (x5.drop j).length then marquetrylaw12_DictMake.l0 k x0 x3 x4 x5 ((i + 1 : Nat) : Int) else marquetrylaw12_DictMake.l0 k x0 x3 x4 (x5 ++ [rd_T29 x0 (i : Int)]) ((i + 1 : Nat) : Int)
  | 0, j, k, b, hj => by
    rw [marquetrylaw12_DictMake.l1, if_neg (by omega), w64m (m := x0.length) (by omega) (by omega), List.drop_eq_nil_of_le (by omega)]
    cases b with
    | true => rw [if_pos rfl, if_pos (Or.inl rfl)]
    | false => rw [if_neg (by decide), if_pos (by omega), if_pos (by omega), if_pos (by omega), if_neg (by simp [dmPos])]
  | r + 1, j, k, b, hj => by
    have hd := dm_drop (l0 := x5) (i := j) (by omega)
    rw [show k + (r + 1) + 1 = (k + r + 1) + 1 by omega, marquetrylaw12_DictMake.l1, if_pos (by omega), w64m (m := x5.length) (by omega) (by omega), dm_l1 x0 x3 x4 x5 i hi h0 h5 r (j + 1) k true (by omega)]
    cases b with
    | true => rw [if_pos rfl, if_pos (Or.inl rfl), if_pos (Or.inl rfl)]
    | false =>
      rw [if_neg (by decide), if_pos (by omega), if_pos (by omega), if_pos (by omega), dm_eqB, dm_l1 x0 x3 x4 x5 i hi h0 h5 r (j + 1) k _ (by omega), hd, dmPos]
      by_cases c : rd_T29 x5 (j : Int) = rd_T29 x0 (i : Int)
      · rw [decide_eq_true c, if_pos (Or.inl rfl), if_pos c, if_pos (Or.inr (by simp))]
      · rw [decide_eq_false c, if_neg c]
        by_cases e : dmPos (rd_T29 x0 (i : Int)) (x5.drop (j + 1)) < (x5.drop (j + 1)).length
        · rw [if_pos (Or.inr e), if_pos (Or.inr (by rw [List.length_cons]; omega))]
        · rw [if_neg (by simp; simp at e; omega), if_neg (by simp; simp at e; omega)]
theorem dm_l0 (x0 x3 : List S29) (x4 : List Int) (h0 : x0.length ≤ 200) (h3 : x3.length ≤ 200) (hrest : ∀ K, 2000 ≤ K → marquetrylaw12_DictMake.j2 K x0 x3 x4 ((x4.length : Int) != (x0.length : Int)) = some true) :
    ∀ (r i K : Nat) (x5 : List S29), i + r = x0.length → x5.length ≤ i → x3 = wantS x5 (x0.drop i) → 300 * r + 3000 ≤ K → marquetrylaw12_DictMake.l0 K x0 x3 x4 x5 (i : Int) = some true
  | 0, i, K, x5, hi, h5, hw, hK => by
    obtain ⟨k, rfl⟩ : ∃ j, K = j + 1 := ⟨K - 1, by omega⟩
    rw [List.drop_eq_nil_of_le (by omega), wantS] at hw
    rw [← hw, marquetrylaw12_DictMake.l0, if_neg (by omega), sameAll (by omega) (by omega), Option.bind_some, if_pos rfl]
    exact hrest k (by omega)
  | r + 1, i, K, x5, hi, h5, hw, hK => by
    obtain ⟨k, rfl⟩ : ∃ j, K = (j + x5.length + 1) + 1 := ⟨K - x5.length - 2, by omega⟩
    rw [dm_drop (by omega), wantS] at hw
    have h1 := dm_l1 x0 x3 x4 x5 i (by omega) (by omega) (by omega) x5.length 0 k false (by omega)
    rw [List.drop_zero] at h1
    rw [marquetrylaw12_DictMake.l0, if_pos (by omega), show (0 : Int) = ((0 : Nat) : Int) from rfl, h1]
    by_cases c : dmPos (rd_T29 x0 (i : Int)) x5 < x5.length
    · rw [if_pos c] at hw
      rw [if_pos (Or.inr c)]
      exact dm_l0 x0 x3 x4 h0 h3 hrest r (i + 1) k x5 (by omega) (by omega) hw (by omega)
    · rw [if_neg c] at hw
      rw [if_neg (by simp; omega)]
      exact dm_l0 x0 x3 x4 h0 h3 hrest r (i + 1) k _ (by omega) (by simp; omega) hw (by omega)
theorem dm_l2 (x0 x3 : List S29) (x4 : List Int) (h0 : x0.length ≤ 200) (hm : x4.map (rd_T29 x3) = x0) (hp : PickOk x3 x4) : ∀ (r i K : Nat), i + r = x0.length → r + 500 ≤ K → marquetrylaw12_DictMake.l2 K x0 x3 x4 (i : Int) = some true
  | 0, i, K, hi, hK => by
    have hl : x4.length = x0.length := by rw [← hm]; simp
    obtain ⟨k, rfl⟩ : ∃ j, K = j + 1 := ⟨K - 1, by omega⟩
    have hpk := (pick_l x4 k x3 [] x4 [] rfl (by omega) rfl (by omega)).1 hp
    rw [List.nil_append, hm] at hpk
    rw [marquetrylaw12_DictMake.l2, if_neg (by omega)]
    unfold dict_Pick.f
    rw [show (0 : Int) = ((([] : List Int).length : Nat) : Int) from rfl, hpk, Option.bind_some, if_pos (by rfl)]
    show ((marquetryref09_SameAll.f k x0 x0).bind fun t => some t) = some true
    rw [sameAll (by omega) (by omega)]; rfl
  | r + 1, i, K, hi, hK => by
    have hl : x4.length = x0.length := by rw [← hm]; simp
    have hil : i < x4.length := by omega
    obtain ⟨k, rfl⟩ : ∃ j, K = j + 1 := ⟨K - 1, by omega⟩
    have hx : rd x4 (i : Int) ∈ x4 := by
      unfold rd
      rw [List.getD_eq_getElem?_getD, show ((i : Int)).toNat = i from rfl, List.getElem?_eq_getElem hil]; exact List.getElem_mem hil
    have hr := hp _ hx
    have ho : rd_T29 x3 (rd x4 (i : Int)) = rd_T29 x0 (i : Int) := by
      have : rd_T29 x0 (i : Int) = rd_T29 (x4.map (rd_T29 x3)) (i : Int) := by rw [hm]
      rw [this]
      show _ = (x4.map (rd_T29 x3)).getD (i : Int).toNat _
      unfold rd
      rw [List.getD_eq_getElem?_getD, show ((i : Int)).toNat = i from rfl, List.getElem?_eq_getElem hil, List.getD_eq_getElem?_getD, List.getElem?_map, List.getElem?_eq_getElem hil]; rfl
    rw [marquetrylaw12_DictMake.l2, if_pos (by omega), if_pos (by omega), if_neg (by omega), if_neg (by omega), if_pos (by omega), if_pos (by omega), if_pos (by omega), dm_neB, ho, decide_eq_true rfl, if_neg (by decide), w64m (m := x4.length) (by omega) (by omega)]
    exact dm_l2 x0 x3 x4 h0 hm hp r (i + 1) k (by omega) (by omega)
theorem want_len : ∀ (l d : List S29), (wantS d l).length ≤ d.length + l.length
  | [], d => Nat.le_refl _
  | x :: t, d => by
    rw [wantS]
    by_cases c : dmPos x d < d.length
    · rw [if_pos c]; have := want_len t d; simp; omega
    · rw [if_neg c]; have := want_len t (d ++ [x]); simp at this ⊢; omega
theorem DictMake : marquetrylaw12_DictMake.Pure := by
  intro l hl
  refine ⟨100000, ?_⟩
  unfold marquetrylaw12_DictMake.f
  by_cases c : (l.length : Int) > 200
  · rw [if_pos c]
  rw [if_neg c]
  have hall : l.all dmOkB = true := List.all_eq_true.2 (fun x hx => by
    obtain ⟨h0, h1, h2⟩ := hl.1 x hx
    unfold dmOkB
    rw [h0, h1, decide_eq_true (by unfold maxLen; omega)]; rfl)
  unfold dict_Make.f
  rw [if_pos ⟨by omega, hall⟩, Option.bind_some]
  obtain ⟨⟨e, he⟩, m, h1, h2, h3⟩ := go_facts l [] []
  rw [List.nil_append] at h1
  rw [← h1] at h2 h3
  have hw := go_want l [] []
  obtain ⟨D, hD⟩ : ∃ D, D = (dmGo [] [] l).1 := ⟨_, rfl⟩
  obtain ⟨N, hN⟩ : ∃ N, N = (dmGo [] [] l).2 := ⟨_, rfl⟩
  rw [← hD] at h2 h3 hw
  rw [← hN] at h2 h3
  rw [← hD, ← hN]
  have hll : l.length ≤ 200 := by omega
  have hDl : D.length ≤ 200 := by have := want_len l []; rw [hw]; simp at this; omega
  have hNl : N.length = l.length := by rw [← h2]; simp
  exact dm_l0 l D N hll hDl (fun K hK => by
    obtain ⟨k, rfl⟩ : ∃ j, K = j + 1 := ⟨K - 1, by omega⟩
    rw [hNl, bne_self_eq_false, marquetrylaw12_DictMake.j2, if_neg (by decide)]
    exact dm_l2 l D N hll h2 h3 l.length 0 k (by omega) (by omega)) l.length 0 _ [] (by omega) (by simp) (by rw [List.drop_zero]; exact hw) (by omega)
end Go.Proofs.Ytpibhiacmceekaa.Pure
