/- LevelsRead: texts of this seat in one (wip/merge.py): L11s, Rd. -/
import Derived.Test.YtpibhiacmceekaaGLevelsRead0
import Derived.Test.YtpibhiacmceekaaGLevelsRead1
import Derived.Test.YtpibhiacmceekaaWMore
import Derived.Deep.Slices
import Derived.Lib.SmallJoins
import Derived.SizedLaws
namespace Go.Proofs.Ytpibhiacmceekaa.L11
set_option linter.unusedVariables false
set_option linter.unusedSimpArgs false
open Go.RowKit Go.Proofs.Ytpibhiacmceekaa.X Go.Proofs.YtpibhiacmceekaaW.PrintWords Go.Proofs.YtpibhiacmceekaaW.PrintLast Go.Proofs.YtpibhiacmceekaaW.PrintMore Go.Proofs.Ytpibhiacmceekaa.Bx Go.Proofs.Ytpibhiacmceekaa.Nx

theorem si_drop {l : List Int} {i : Nat} (h : i < l.length) : l.drop i = l.getD i 0 :: l.drop (i + 1) := by
  rw [List.drop_eq_getElem_cons h, List.getD_eq_getElem?_getD, List.getElem?_eq_getElem h]; rfl
theorem si_w {n : Nat} (h : n + 1 ≤ 1000000000) : wrap64 ((n : Int) + 1) = ((n + 1 : Nat) : Int) := by unfold wrap64; omega
theorem sameInts_l : ∀ (d i k : Nat) (a b : List Int), a.length ≤ 100000000 → a.length = b.length → i + d = a.length → d < k → marquetryref11_SameInts.l0 k a b (i : Int) = some (decide (a.drop i = b.drop i))
  | 0, i, k, a, b, hl, hab, hi, hk => by
    obtain ⟨k, rfl⟩ : ∃ j, k = j + 1 := ⟨k - 1, by omega⟩
    rw [marquetryref11_SameInts.l0, if_neg (by omega), List.drop_eq_nil_of_le (by omega), List.drop_eq_nil_of_le (by omega)]; rfl
  | d + 1, i, k, a, b, hl, hab, hi, hk => by
    obtain ⟨k, rfl⟩ : ∃ j, k = j + 1 := ⟨k - 1, by omega⟩
    have ha : rd a (i : Int) = a.getD i 0 := rfl
    have hb : rd b (i : Int) = b.getD i 0 := rfl
    rw [marquetryref11_SameInts.l0, if_pos (by omega), if_pos (by omega), if_pos (by omega), ha, hb, si_w (by omega), si_drop (l := a) (by omega), si_drop (l := b) (by omega)]
    by_cases c : a.getD i 0 = b.getD i 0
    · rw [if_pos c, sameInts_l d (i + 1) k a b hl hab (by omega) (by omega), c]
      simp
    · rw [if_neg c, decide_eq_false (fun h => c (List.cons.inj h).1)]
theorem sameInts {k : Nat} {a b : List Int} (hl : a.length ≤ 100000000) (hk : a.length < k) : marquetryref11_SameInts.f k a b = some (decide (a = b)) := by
  unfold marquetryref11_SameInts.f
  by_cases c : a.length = b.length
  · have := sameInts_l a.length 0 k a b hl c (by omega) hk
    rw [List.drop_zero, List.drop_zero] at this
    rw [if_pos (by omega)]; exact this
  · rw [if_neg (by omega), decide_eq_false (fun h => c (by rw [h]))]
end Go.Proofs.Ytpibhiacmceekaa.L11

namespace Go.Proofs.Ytpibhiacmceekaa.Rd
open Go.ChangeShapes Go.WideShapes Go.Deep Go.RowKit Go.Joins Go.Proofs.YtpibhiacmceekaaW.PrintWords

/-- Cells that read as a datum of type t are a value of kind d that fits. -/
structure Opens (P : Program) (t : TypeId) {α : Type} (d : Kd α) (Wf : α → Prop) : Prop where
  opens : ∀ {H : Type} {enc : TypeId × Value → H} {w : World} {base : Nat} {spare : Nat → Bool} {held : Bool} {n : Nat} {cs : List Value} {y : DataW H × List MemPlace},
    DataW.trod enc P w base spare held n t cs = some y → (∀ m ∈ y.1.weights P t, m ≤ reachBytes) → ∃ x, d.K w x cs ∧ Wf x

theorem reach_le {m : Nat} (h : m ≤ reachBytes) : m ≤ 140737488351232 := h

theorem opens_int {P : Program} {t : TypeId} {k : IntKind} (hu : P.underlying t = some (.int k)) : Opens P t (Kd.int k) (fun x => (Lit.int k x).wf = true) := by
  refine ⟨fun {H enc w base spare held n cs y} h _ => ?_⟩
  obtain ⟨x, rfl, _, hw⟩ := DataW.trod_int hu h
  exact ⟨x, rfl, hw⟩
theorem opens_bool {P : Program} {t : TypeId} (hu : P.underlying t = some .bool) : Opens P t Kd.bool (fun _ => True) := by
  refine ⟨fun {H enc w base spare held n cs y} h _ => ?_⟩
  obtain ⟨x, rfl, _⟩ := DataW.trod_bool hu h
  exact ⟨x, rfl, trivial⟩
theorem opens_string {P : Program} {t : TypeId} (hu : P.underlying t = some .string) : Opens P t Kd.string (fun x => x.size ≤ 140737488351232) := by
  refine ⟨fun {H enc w base spare held n cs y} h hw => ?_⟩
  obtain ⟨x, rfl, hx, _⟩ := DataW.trod_string hu h
  subst hx
  refine ⟨x, rfl, ?_⟩
  have := hw x.data.toList.length (by simp [DataW.weights])
  rw [Array.length_toList] at this
  exact this

/-- A list out of what is known at each place. -/
theorem list_of {α : Type} {p : Nat → α → Prop} : ∀ (n : Nat), (∀ i, i < n → ∃ x, p i x) → ∃ xs : List α, xs.length = n ∧ ∀ i x, xs[i]? = some x → p i x
  | 0, _ => ⟨[], rfl, fun i x h => by simp at h⟩
  | n + 1, h => by
    obtain ⟨xs, hl, hx⟩ := list_of n (fun i hi => h i (by omega))
    obtain ⟨x, hp⟩ := h n (by omega)
    refine ⟨xs ++ [x], by simp [hl], fun i y hy => ?_⟩
    rcases Nat.lt_or_ge i xs.length with hi | hi
    · rw [List.getElem?_append_left hi] at hy; exact hx i y hy
    · have hi' : i = xs.length := by
        have := (List.getElem?_eq_some_iff.1 hy).1
        simp at this; omega
      subst hi'
      have : x = y := by simpa using hy
      subst this
      rw [hl]; exact hp

theorem weights_all {H : Type} {P : Program} {e : TypeId} : ∀ (ds : List (DataW H)) (d : DataW H), d ∈ ds → ∀ m ∈ d.weights P e, m ∈ DataW.weightsAll P e ds
  | [], d, h, _, _ => by simp at h
  | d0 :: ds, d, h, m, hm => by
    simp only [DataW.weightsAll, List.mem_append]
    rcases List.mem_cons.1 h with rfl | h
    · exact .inl hm
    · exact .inr (weights_all ds d h m hm)

theorem opens_slice {P : Program} {t e : TypeId} {α : Type} {d : Kd α} {Wf : α → Prop} {B : Nat} (hu : P.underlying t = some (.slice e)) (hsz : P.cellsOf e = d.sz) (hB : P.bytesOf e = B) (ho : Opens P e d Wf) :
    Opens P t (Kd.slice e d) (fun xs => (∀ x ∈ xs, Wf x) ∧ xs.length ≤ maxLen ∧ xs.length * B ≤ 140737488351232) := by
  refine ⟨fun {H enc w base spare held n cs y} h hw => ?_⟩
  rcases open_slice hu h with ⟨rfl, _⟩ | ⟨a, len, cap, m, n', D, Pl, rfl, hb, hl, hm, hmm, rfl, hx⟩
  · exact ⟨[], ⟨none, 0, rfl, Nat.le_refl _, rfl, Nat.zero_le _, fun h => absurd h (by simp)⟩, by simp⟩
  · have hlm : len ≤ m := by rw [hmm]; split <;> omega
    have hsize : len * B ≤ 140737488351232 := by
      have := hw ((((List.range len).map D).length + ((List.range (m - len)).map fun j => D (len + j)).length) * P.bytesOf e) (by simp [DataW.weights, hu])
      rw [hB] at this
      refine Nat.le_trans (Nat.mul_le_mul_right _ ?_) (reach_le this)
      simp
    obtain ⟨xs, hxl, hxs⟩ := list_of (p := fun i x => ∃ cs', w.cells? base (a.add (i * P.cellsOf e)) (P.cellsOf e) = some cs' ∧ d.K w x cs' ∧ Wf x) len (fun i hi => by
      obtain ⟨cs', h1, h2⟩ := hx i (by omega)
      obtain ⟨x, hk, hwf⟩ := ho.opens h2 (fun q hq => hw q (by
        simp only [DataW.weights, hu, List.mem_cons, List.mem_append]
        exact .inr (.inl (weights_all _ (D i) (List.mem_map.2 ⟨i, List.mem_range.2 hi, rfl⟩) q hq))))
      exact ⟨x, cs', h1, hk, hwf⟩)
    subst hxl
    refine ⟨xs, ⟨some a, cap, rfl, hl, rfl, ?_, fun _ => ⟨a, rfl, fun j p hp => ?_⟩⟩, ⟨fun x hx' => ?_, Nat.le_trans hl hm, hsize⟩⟩
    · unfold maxLen at hm; omega
    · obtain ⟨cs', h1, hk, _⟩ := hxs j p hp
      obtain ⟨_, hcl, hcc⟩ := World.cells?_some h1
      refine ⟨cs', by rw [hcl, hsz], hk, fun i u hiu => ?_⟩
      have hi : i < P.cellsOf e := by rw [← hcl]; exact (List.getElem?_eq_some_iff.1 hiu).1
      rw [← hsz, ← Go.Deep.add_add, hcc i hi]
      exact hiu
    · obtain ⟨i, hi⟩ := List.getElem?_of_mem hx'
      exact (hxs i x hi).choose_spec.2.2

theorem weights_each {H : Type} {P : Program} {t : TypeId} {fs : Array Field} {ds : List (DataW H)} (hu : P.underlying t = some (.struct fs)) (hw : ∀ m ∈ (DataW.agg ds).weights P t, m ≤ reachBytes) {j : Nat} {f : Field} {d : DataW H} (hf : fs.toList[j]? = some f) (hd : ds[j]? = some d) :
    ∀ m ∈ d.weights P f.type, m ≤ reachBytes := by
  intro m hm
  refine hw m ?_
  simp only [DataW.weights, hu]
  exact DataW.weights_mem_each (by rw [List.getElem?_map, hf]; rfl) hd m hm

theorem cut_one (cs : List Value) (k : Nat) (v : Value) (h : cs[k]? = some v) : (cs.drop k).take 1 = [v] := by
  obtain ⟨hl, hv⟩ := List.getElem?_eq_some_iff.1 h
  rw [List.drop_eq_getElem_cons hl, hv]; rfl

theorem one_of {P : Program} {fs : Array Field} (hone : oneCellFields P fs = true) {j : Nat} {f : Field} (h : fs.toList[j]? = some f) : f.offset = j ∧ P.cellsOf f.type = 1 := hone_of hone j f (by simpa using h)

theorem opens_struct2 {P : Program} {t : TypeId} {f0 f1 : Field} {α β : Type} {d0 : Kd α} {d1 : Kd β} {W0 : α → Prop} {W1 : β → Prop} (hu : P.underlying t = some (.struct #[f0, f1])) (hone : oneCellFields P #[f0, f1] = true) (hC : P.cellsOf t = 2)
    (h0 : Opens P f0.type d0 W0) (h1 : Opens P f1.type d1 W1) : Opens P t (Kd.pair d0 d1) (fun x => W0 x.1 ∧ W1 x.2) := by
  refine ⟨fun {H enc w base spare held n cs y} h hw => ?_⟩
  obtain ⟨y0, y1, m, rfl, hl, e0, e1⟩ := trod_struct2 hu h
  obtain ⟨o0, k0⟩ := one_of hone (j := 0) (f := f0) rfl
  obtain ⟨o1, k1⟩ := one_of hone (j := 1) (f := f1) rfl
  rw [hC] at hl
  match cs, hl with
  | [c0, c1], _ =>
    rw [o0, k0] at e0; rw [o1, k1] at e1
    obtain ⟨x0, q0, z0⟩ := h0.opens e0 (weights_each hu hw (j := 0) rfl rfl)
    obtain ⟨x1, q1, z1⟩ := h1.opens e1 (weights_each hu hw (j := 1) rfl rfl)
    exact ⟨(x0, x1), ⟨[c0], [c1], rfl, q0, q1⟩, z0, z1⟩
theorem opens_struct3 {P : Program} {t : TypeId} {f0 f1 f2 : Field} {α β γ : Type} {d0 : Kd α} {d1 : Kd β} {d2 : Kd γ} {W0 : α → Prop} {W1 : β → Prop} {W2 : γ → Prop} (hu : P.underlying t = some (.struct #[f0, f1, f2])) (hone : oneCellFields P #[f0, f1, f2] = true) (hC : P.cellsOf t = 3)
    (h0 : Opens P f0.type d0 W0) (h1 : Opens P f1.type d1 W1) (h2 : Opens P f2.type d2 W2) : Opens P t (Kd.pair d0 (Kd.pair d1 d2)) (fun x => W0 x.1 ∧ W1 x.2.1 ∧ W2 x.2.2) := by
  refine ⟨fun {H enc w base spare held n cs y} h hw => ?_⟩
  obtain ⟨y0, y1, y2, m, rfl, hl, e0, e1, e2⟩ := trod_struct3 hu h
  obtain ⟨o0, k0⟩ := one_of hone (j := 0) (f := f0) rfl
  obtain ⟨o1, k1⟩ := one_of hone (j := 1) (f := f1) rfl
  obtain ⟨o2, k2⟩ := one_of hone (j := 2) (f := f2) rfl
  rw [hC] at hl
  match cs, hl with
  | [c0, c1, c2], _ =>
    rw [o0, k0] at e0; rw [o1, k1] at e1; rw [o2, k2] at e2
    obtain ⟨x0, q0, z0⟩ := h0.opens e0 (weights_each hu hw (j := 0) rfl rfl)
    obtain ⟨x1, q1, z1⟩ := h1.opens e1 (weights_each hu hw (j := 1) rfl rfl)
    obtain ⟨x2, q2, z2⟩ := h2.opens e2 (weights_each hu hw (j := 2) rfl rfl)
    exact ⟨(x0, x1, x2), ⟨[c0], [c1, c2], rfl, q0, [c1], [c2], rfl, q1, q2⟩, z0, z1, z2⟩
theorem opens_struct4 {P : Program} {t : TypeId} {f0 f1 f2 f3 : Field} {α β γ δ : Type} {d0 : Kd α} {d1 : Kd β} {d2 : Kd γ} {d3 : Kd δ} {W0 : α → Prop} {W1 : β → Prop} {W2 : γ → Prop} {W3 : δ → Prop} (hu : P.underlying t = some (.struct #[f0, f1, f2, f3])) (hone : oneCellFields P #[f0, f1, f2, f3] = true) (hC : P.cellsOf t = 4)
    (h0 : Opens P f0.type d0 W0) (h1 : Opens P f1.type d1 W1) (h2 : Opens P f2.type d2 W2) (h3 : Opens P f3.type d3 W3) : Opens P t (Kd.pair d0 (Kd.pair d1 (Kd.pair d2 d3))) (fun x => W0 x.1 ∧ W1 x.2.1 ∧ W2 x.2.2.1 ∧ W3 x.2.2.2) := by
  refine ⟨fun {H enc w base spare held n cs y} h hw => ?_⟩
  obtain ⟨y0, y1, y2, y3, m, rfl, hl, e0, e1, e2, e3⟩ := trod_struct4 hu h
  obtain ⟨o0, k0⟩ := one_of hone (j := 0) (f := f0) rfl
  obtain ⟨o1, k1⟩ := one_of hone (j := 1) (f := f1) rfl
  obtain ⟨o2, k2⟩ := one_of hone (j := 2) (f := f2) rfl
  obtain ⟨o3, k3⟩ := one_of hone (j := 3) (f := f3) rfl
  rw [hC] at hl
  match cs, hl with
  | [c0, c1, c2, c3], _ =>
    rw [o0, k0] at e0; rw [o1, k1] at e1; rw [o2, k2] at e2; rw [o3, k3] at e3
    obtain ⟨x0, q0, z0⟩ := h0.opens e0 (weights_each hu hw (j := 0) rfl rfl)
    obtain ⟨x1, q1, z1⟩ := h1.opens e1 (weights_each hu hw (j := 1) rfl rfl)
    obtain ⟨x2, q2, z2⟩ := h2.opens e2 (weights_each hu hw (j := 2) rfl rfl)
    obtain ⟨x3, q3, z3⟩ := h3.opens e3 (weights_each hu hw (j := 3) rfl rfl)
    exact ⟨(x0, x1, x2, x3), ⟨[c0], [c1, c2, c3], rfl, q0, [c1], [c2, c3], rfl, q1, [c2], [c3], rfl, q2, q3⟩, z0, z1, z2, z3⟩

theorem opens_iso {P : Program} {t : TypeId} {α β : Type} {d : Kd α} {f : β → α} (g : α → β) (hfg : ∀ a, f (g a) = a) {W : α → Prop} (h : Opens P t d W) : Opens P t (Kd.iso d f) (fun x => W (f x)) := by
  refine ⟨fun {H enc w base spare held n cs y} hh hw => ?_⟩
  obtain ⟨x, hx, hwf⟩ := h.opens hh hw
  refine ⟨g x, ?_, ?_⟩
  · show d.K w (f (g x)) cs
    rw [hfg]; exact hx
  · rw [hfg]; exact hwf
/-- An argument. -/
theorem opens_arg {P : Program} {t : TypeId} {α : Type} {d : Kd α} {Wf : α → Prop} (ho : Opens P t d Wf) {H : Type} {enc : TypeId × Value → H} {w : World} {base : Nat} {spare : Nat → Bool} {held : Bool} {v : Value} {dt : DataW H} {p : List MemPlace}
    (h : DataW.Trod enc P w base spare held t v dt p) {ts : List TypeId} {ds : List (DataW H)} {j : Nat} (hsz : (DataW.weightsEach P ts ds).all (· ≤ reachBytes) = true) (ht : ts[j]? = some t) (hd : ds[j]? = some dt) : ∃ x, d.K w x v.cells.toList ∧ Wf x := by
  obtain ⟨n, hn⟩ := h
  refine ho.opens hn (fun m hm => ?_)
  have := List.all_eq_true.1 hsz m (DataW.weights_mem_each ht hd m hm)
  simpa using this
end Go.Proofs.Ytpibhiacmceekaa.Rd
