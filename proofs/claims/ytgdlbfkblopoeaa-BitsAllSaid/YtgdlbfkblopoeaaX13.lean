/- Written by a program of this session (wip/xprint.py) with the kit's printer: Go functions as Lean functions, and that the code comes to their answers. -/
import Derived.Test.YtgdlbfkblopoeaaX0
import Derived.Test.YtgdlbfkblopoeaaX2
import Derived.Test.YtgdlbfkblopoeaaBi
namespace Go.Proofs.Ytgdlbfkblopoeaa.X
open Go.RowKit Go.Proofs.YtgdlbfkblopoeaaW.PrintWords Go.Proofs.YtgdlbfkblopoeaaW.PrintLast Go.Proofs.YtgdlbfkblopoeaaW.PrintMore
attribute [local go_sem] max2_int min2_int max_two min_two max_three min_three max_four min_four   -- for this text's walks alone
set_option linter.unusedVariables false
set_option linter.unusedSimpArgs false

/-! ### bits_Unpack: function 34 (by hand): a range over the bits; the results lie in cells -/

theorem size_drewN (w : World) (n : Nat) : (w.drewN n).heap.size = w.heap.size := rfl
theorem heap_alloc_at (w : World) (o : Obj) {g : Nat} (h : g = w.heap.size) : (w.alloc o).heap[g]? = some o := by subst h; exact blk_new w o
theorem named_in {F : Fence} {n : Nat} {P : Program} {Q : Exit → Act → World → Prop} {a : Act} {w : World} {c : Code} (h : ∀ W, W = w → c.wpIn F n P Q a W) : c.wpIn F n P Q a w := h _ rfl
def oneVar : TypeDesc → Bool
  | .struct _ | .array _ _ => false
  | _ => true
theorem run_loadVar_one {P : Program} {t : TypeId} {e : TypeDesc} {b : Addr} {x : Value} {w : World} (h1 : P.underlying t = some e) (h2 : oneVar e = true) (h3 : w.cell? b = some x) : (loadVar t b).run P w = .ok x w := by
  have hagg : (isAgg t).run P w = .ok false w := by
    unfold isAgg
    rw [Sem.run_bind, run_underlying h1 w]
    cases e <;> simp_all [oneVar]
  simp [loadVar, Sem.run_bind, hagg, go_sem, h3]
theorem wpList_named {P : Program} {ops : Array Oper} {Q : Exit → Act → World → Prop} {l : List Oper} {a : Act} {w : World} (h : ∀ Q', Aside0 (∀ a w, Q .normal a w → Q' .normal a w) → wpList P ops Q' l a w) : wpList P ops Q l a w := h Q ⟨fun _ _ h => h⟩
/-- Two results that lie in variables of one cell each. -/
theorem results_v2 {P : Program} {fn : Func} {p p' : Tmp} {ty ty' : TypeId} (h : fn.results = #[.cell p ty, .cell p' ty']) {tmps : Array Value} {w : World} {a a' : Addr} {v v' : Value} (d d' : TypeDesc) (hu : P.underlying ty = some d) (hd : oneVar d = true) (hu' : P.underlying ty' = some d') (hd' : oneVar d' = true)
    (hp : tmps.getD p undef = .pointer (some a)) (hp' : tmps.getD p' undef = .pointer (some a')) (hv : w.cell? a = some v) (hv' : w.cell? a' = some v') : (results fn tmps).run P w = .ok (.tuple #[v, v']) w := by
  unfold results
  rw [h]
  simp only [List.mapM_toArray, Sem.run_bind, Sem.run_map, List.mapM_cons, List.mapM_nil, hp, hp', asAddr, Sem.run_pure, Result.andThen_ok, run_loadVar_one hu hd hv, run_loadVar_one hu' hd' hv']
  simp
/-- A row of cells abides what turns no cells. -/
theorem blk_own {W W' : World} {row : Option Nat} {B g t : Nat} {cs : Array Value} (h : W.heap[g]? = some (.cells cs t (0, 0))) (hg : W.grownBy W' row) (hr : ∀ r, row = some r → B ≤ r ∧ ∃ o : Obj, W.heap[r]? = some o ∧ o.isCells = false) : W'.heap[g]? = some (.cells cs t (0, 0)) := by
  refine blk_grown h hg fun e => ?_
  obtain ⟨_, o, ho, hc⟩ := hr g e.symm
  rw [h] at ho
  cases ho
  cases hc
theorem row_own {W W' : World} {row : Option Nat} {B : Nat} {base g e n cap : Nat} {xs : List Value} (h : W.ownsRow base e 1 (.slice (some ⟨g, 0, none⟩) n cap) n xs) (hg : W.grownBy W' row) (hr : ∀ r, row = some r → B ≤ r ∧ ∃ o : Obj, W.heap[r]? = some o ∧ o.isCells = false) : W'.ownsRow base e 1 (.slice (some ⟨g, 0, none⟩) n cap) n xs := by
  refine h.kept hg (.inr fun eq => ?_)
  obtain ⟨_, o, ho, hc⟩ := hr g eq.symm
  obtain ⟨cs, hcs⟩ := own_typed h g rfl
  rw [hcs] at ho
  cases ho
  cases hc

/-- One bit: into its number, or, behind the last number, it must be none. -/
def ust (a1 : Int) (m : Nat) (s : List Int × Nat × Nat) (x : Int) : Option (List Int × Nat × Nat) :=
  if 0 < a1 ∧ s.2.1 < m then some (s.1.set s.2.1 (bits .or .u64 (rd s.1 (s.2.1 : Int)) (IntKind.u64.wrap (IntKind.u64.wrap x * 2 ^ s.2.2))), if (s.2.2 : Int) + 1 = a1 then (s.2.1 + 1, 0) else (s.2.1, s.2.2 + 1))
  else if x = 0 then some s else none
def urun (a1 : Int) (m : Nat) (ys : List Int) : Option (List Int × Nat × Nat) := ys.foldl (fun o x => o.bind fun s => ust a1 m s x) (some (List.replicate m 0, 0, 0))
theorem urun_snoc (a1 : Int) (m : Nat) (ys : List Int) (x : Int) : urun a1 m (ys ++ [x]) = (urun a1 m ys).bind fun s => ust a1 m s x := by simp [urun]
theorem urun_none (a1 : Int) (m : Nat) : ∀ (zs : List Int), zs.foldl (fun o x => o.bind fun s => ust a1 m s x) none = none
  | [] => rfl
  | z :: zs => urun_none a1 m zs
theorem urun_app (a1 : Int) (m : Nat) (ys zs : List Int) (h : urun a1 m ys = none) : urun a1 m (ys ++ zs) = none := by
  unfold urun at h ⊢
  rw [List.foldl_append, h, urun_none]
theorem allB_split {xs : List Int} {a b : Nat} (h : a ≤ b) : allB xs b = allB xs a ++ ((List.range (b - a)).map fun j => bitv (xs.getD ((a + j) / 8) 0) ((a + j) % 8)) := by
  obtain ⟨c, rfl⟩ : ∃ c, b = a + c := ⟨b - a, by omega⟩
  simp [allB, List.range_add, Function.comp_def]
def bits_Unpack.f (k : Nat) (l0 : List Int) (a1 a2 : Int) : Option (List Int × Int) :=
  (bits_Size.f k a1 a2).bind fun s => if s.2 = 0 then (if (l0.length : Int) < s.1 then some ([], 6) else if s.1 < (l0.length : Int) then some ([], 7) else
    if 0 ≤ a1 ∧ a1 ≤ 64 ∧ 0 ≤ a2 ∧ a2 ≤ 1048576 ∧ l0.length ≤ 1048576 then some (match urun a1 a2.toNat (allB l0 (8 * l0.length)) with | some r => (r.1, 0) | none => ([], 8)) else none) else some ([], s.2)
theorem bits_Unpack.mono : ∀ l0 a1 a2 k, LeO (bits_Unpack.f k l0 a1 a2) (bits_Unpack.f (k + 1) l0 a1 a2) := by
  intro l0 a1 a2 k
  unfold bits_Unpack.f
  exact LeO.bind (bits_Size.mono _ _ _) (fun _ => LeO.refl _)

/-- What lies in the boxes. -/
def UnH (w : World) (a1 : Int) (m : Nat) (out : List Int) (k t : Nat) (W : World) : Prop :=
  W.heap[w.heap.size]? = some (.cells #[.int .i64 a1] 3 (0, 0)) ∧ W.heap[w.heap.size + 1]? = some (.cells #[.int .i64 m] 3 (0, 0)) ∧
    W.heap[w.heap.size + 2]? = some (.cells #[.slice none 0 0] 56 (0, 0)) ∧ W.heap[w.heap.size + 3]? = some (.cells #[.int .i64 0] 31 (0, 0)) ∧
    W.ownsRow w.heap.size 22 1 (.slice (some ⟨w.heap.size + 4, 0, none⟩) m m) m (nums .u64 out) ∧ W.heap[w.heap.size + 5]? = some (.cells #[.slice (some ⟨w.heap.size + 4, 0, none⟩) m m] 56 (0, 0)) ∧
    W.heap[w.heap.size + 6]? = some (.cells #[.int .i64 k] 3 (0, 0)) ∧ W.heap[w.heap.size + 7]? = some (.cells #[.int .i64 t] 3 (0, 0)) ∧ Below w.heap.size w W
theorem un_H {w : World} {a1 : Int} {m : Nat} {out : List Int} {k t : Nat} {W : World} (g0 : W.heap[w.heap.size]? = some (.cells #[.int .i64 a1] 3 (0, 0))) (g1 : W.heap[w.heap.size + 1]? = some (.cells #[.int .i64 m] 3 (0, 0)))
    (g2 : W.heap[w.heap.size + 2]? = some (.cells #[.slice none 0 0] 56 (0, 0))) (g3 : W.heap[w.heap.size + 3]? = some (.cells #[.int .i64 0] 31 (0, 0)))
    (g4 : W.ownsRow w.heap.size 22 1 (.slice (some ⟨w.heap.size + 4, 0, none⟩) m m) m (nums .u64 out)) (g5 : W.heap[w.heap.size + 5]? = some (.cells #[.slice (some ⟨w.heap.size + 4, 0, none⟩) m m] 56 (0, 0)))
    (g6 : W.heap[w.heap.size + 6]? = some (.cells #[.int .i64 k] 3 (0, 0))) (g7 : W.heap[w.heap.size + 7]? = some (.cells #[.int .i64 t] 3 (0, 0))) (hb : Below w.heap.size w W) : UnH w a1 m out k t W := ⟨g0, g1, g2, g3, g4, g5, g6, g7, hb⟩
theorem un_set7 {w : World} {a1 x : Int} {m : Nat} {out : List Int} {k t : Nat} {W : World} (t' : Nat) (h : UnH w a1 m out k t W) (hx : x = (t' : Int)) : UnH w a1 m out k t' (W.setCell ⟨w.heap.size + 1 + 1 + 1 + 1 + 1 + 1 + 1, 0, none⟩ (.int .i64 x)) := by
  subst hx
  obtain ⟨g0, g1, g2, g3, g4, g5, g6, g7, hb⟩ := h
  have d : ∀ {j : Nat}, j < w.heap.size + 7 → j ≠ (⟨w.heap.size + 1 + 1 + 1 + 1 + 1 + 1 + 1, 0, none⟩ : Addr).block := fun h e => by simp only [] at e; omega
  refine ⟨blk_far g0 (d (by omega)) _, blk_far g1 (d (by omega)) _, blk_far g2 (d (by omega)) _, blk_far g3 (d (by omega)) _, own_setCell g4 (fun e => ?_) _, blk_far g5 (d (by omega)) _, blk_far g6 (d (by omega)) _, ?_, hb.setCell (by simp only []; omega) _⟩
  · injection e with e
    exact d (j := w.heap.size + 4) (by omega) e.symm
  · exact blk_set g7 0 _
theorem un_set6 {w : World} {a1 x : Int} {m : Nat} {out : List Int} {k t : Nat} {W : World} (k' : Nat) (h : UnH w a1 m out k t W) (hx : x = (k' : Int)) : UnH w a1 m out k' t (W.setCell ⟨w.heap.size + 1 + 1 + 1 + 1 + 1 + 1, 0, none⟩ (.int .i64 x)) := by
  subst hx
  obtain ⟨g0, g1, g2, g3, g4, g5, g6, g7, hb⟩ := h
  have d : ∀ {j : Nat}, j ≠ w.heap.size + 6 → j ≠ (⟨w.heap.size + 1 + 1 + 1 + 1 + 1 + 1, 0, none⟩ : Addr).block := fun h e => by simp only [] at e; omega
  refine ⟨blk_far g0 (d (by omega)) _, blk_far g1 (d (by omega)) _, blk_far g2 (d (by omega)) _, blk_far g3 (d (by omega)) _, own_setCell g4 (fun e => ?_) _, blk_far g5 (d (by omega)) _, ?_, blk_far g7 (d (by omega)) _, hb.setCell (by simp only []; omega) _⟩
  · injection e with e
    exact d (j := w.heap.size + 4) (by omega) e.symm
  · exact blk_set g6 0 _
/-- What lies in the boxes between two rounds. -/
def UnI (w : World) (a1 : Int) (m : Nat) (pre : List Int) (W : World) : Prop :=
  ∃ (out : List Int) (k t : Nat), urun a1 m pre = some (out, k, t) ∧ out.length = m ∧ k ≤ m ∧ (0 < a1 → (t : Int) < a1) ∧ t ≤ 64 ∧
    UnH w a1 m out k t W
def UnX (w : World) (a1 : Int) (m : Nat) (c : Code) (pre : List Int) (W : World) : Prop :=
  c = .ret ∧ urun a1 m pre = none ∧ W.heap[w.heap.size + 2]? = some (.cells #[.slice none 0 0] 56 (0, 0)) ∧ W.heap[w.heap.size + 3]? = some (.cells #[.int .i64 8] 31 (0, 0)) ∧ Below w.heap.size w W
theorem UnI_own (w : World) (a1 : Int) (m B : Nat) (hB : w.heap.size ≤ B) : OwnFrom B (UnI w a1 m) := by
  rintro pre W W' row ⟨out, k, t, h1, h2, h3, h4, h5, g0, g1, g2, g3, g4, g5, g6, g7, hb⟩ hg hr
  exact ⟨out, k, t, h1, h2, h3, h4, h5, blk_own g0 hg hr, blk_own g1 hg hr, blk_own g2 hg hr, blk_own g3 hg hr, row_own g4 hg hr, blk_own g5 hg hr, blk_own g6 hg hr, blk_own g7 hg hr, hb.grown hg hb.size (fun r e => Nat.le_trans hB (hr r e).1)⟩
theorem UnX_own (w : World) (a1 : Int) (m B : Nat) (hB : w.heap.size ≤ B) (c : Code) : OwnFrom B (UnX w a1 m c) := by
  rintro pre W W' row ⟨h1, h2, g2, g3, hb⟩ hg hr
  exact ⟨h1, h2, blk_own g2 hg hr, blk_own g3 hg hr, hb.grown hg hb.size (fun r e => Nat.le_trans hB (hr r e).1)⟩

theorem un_left {w W : World} {a1 : Int} {m B : Nat} {ys : List Int} (g2 : W.heap[w.heap.size + 2]? = some (.cells #[.slice none 0 0] 56 (0, 0))) (g3 : W.heap[w.heap.size + 3]? = some (.cells #[.int .i64 0] 31 (0, 0))) (hb : Below w.heap.size w W) (hn : urun a1 m ys = none) :
    KeepsFrom B W ((W.setCell ⟨w.heap.size + 1 + 1, 0, none⟩ (.slice none 0 0)).setCell ⟨w.heap.size + 1 + 1 + 1, 0, none⟩ (.int .i64 8)) ∧ UnX w a1 m .ret ys ((W.setCell ⟨w.heap.size + 1 + 1, 0, none⟩ (.slice none 0 0)).setCell ⟨w.heap.size + 1 + 1 + 1, 0, none⟩ (.int .i64 8)) := by
  refine ⟨((KeepsOthers.setCell _ _ _).trans (KeepsOthers.setCell _ _ _)).from _, rfl, hn, ?_, ?_, (hb.setCell (by simp only []; omega) _).setCell (by simp only []; omega) _⟩
  · exact blk_far (blk_set g2 0 _) (by simp only []; omega) _
  · exact blk_set (blk_far g3 (by simp only []; omega) _) 0 _

theorem un_end {w W : World} {m D : Nat} {out : List Int} (h2 : out.length = m) (hD : w.heap.size ≤ D) (g2 : W.heap[w.heap.size + 2]? = some (.cells #[.slice none 0 0] 56 (0, 0))) (g3 : W.heap[w.heap.size + 3]? = some (.cells #[.int .i64 0] 31 (0, 0)))
    (g4 : W.ownsRow w.heap.size 22 1 (.slice (some ⟨w.heap.size + 4, 0, none⟩) m m) m (nums .u64 out)) (hb : Below w.heap.size w W) (hK : W.heap[D]? = some (.deferred (some []))) (W5 : World)
    (h5 : W5 = (W.setCell ⟨w.heap.size + 1 + 1, 0, none⟩ (.slice (some ⟨w.heap.size + 4, 0, none⟩) m m)).setCell ⟨w.heap.size + 1 + 1 + 1, 0, none⟩ (.int .i64 0)) :
    W5.heap[D]? = some (.deferred (some [])) ∧ (W5.putObj D (.deferred none)).cell? ⟨w.heap.size + 1 + 1, 0, none⟩ = some (.slice (some ⟨w.heap.size + 4, 0, none⟩) m m) ∧ (W5.putObj D (.deferred none)).cell? ⟨w.heap.size + 1 + 1 + 1, 0, none⟩ = some (.int .i64 0) ∧
      Kd.R (Kd.int .u64) 22 (W5.putObj D (.deferred none)) w.heap.size (fun _ => True) (.slice (some ⟨w.heap.size + 4, 0, none⟩) m m) out ∧ Below w.heap.size w (W5.putObj D (.deferred none)) := by
  have hK' : W5.heap[D]? = some (.deferred (some [])) := by rw [h5]; exact ((KeepsOthers.setCell _ _ _).trans (KeepsOthers.setCell _ _ _)).same D _ hK rfl
  have a2 : W5.heap[w.heap.size + 2]? = some (.cells #[.slice (some ⟨w.heap.size + 4, 0, none⟩) m m] 56 (0, 0)) := by rw [h5]; exact blk_far (blk_set g2 0 _) (by simp only []; omega) _
  have a3 : W5.heap[w.heap.size + 3]? = some (.cells #[.int .i64 0] 31 (0, 0)) := by rw [h5]; exact blk_set (blk_far g3 (by simp only []; omega) _) 0 _
  have a4 : W5.ownsRow w.heap.size 22 1 (.slice (some ⟨w.heap.size + 4, 0, none⟩) m m) m (nums .u64 out) := by
    rw [h5]
    refine own_setCell (own_setCell g4 (fun e => ?_) _) (fun e => ?_) _ <;> (injection e with e; simp only [] at e; omega)
  have a5 : Below w.heap.size w W5 := by rw [h5]; exact (hb.setCell (by simp only []; omega) _).setCell (by simp only []; omega) _
  clear h5 g2 g3 g4 hb hK
  refine ⟨hK', cell_kept (blk_cell a2 0) (grownBy_putObj' _ D (.deferred none)) (fun r e => by cases e; exact ⟨_, hK', rfl⟩), cell_kept (blk_cell a3 0) (grownBy_putObj' _ D (.deferred none)) (fun r e => by cases e; exact ⟨_, hK', rfl⟩), ?_, a5.trans (belowK_b (w := w) (Nat.le_refl _) _ D _ _ hD hK' rfl rfl)⟩
  subst h2
  exact Kd.R_of_own (enc := Value.int .u64) (h1 := fun _ => rfl) (ownsRow_putObj a4 _ hK' rfl) (fun _ _ => trivial)
theorem un_halt {w W : World} {D : Nat} (hD : w.heap.size ≤ D) (g2 : W.heap[w.heap.size + 2]? = some (.cells #[.slice none 0 0] 56 (0, 0))) (g3 : W.heap[w.heap.size + 3]? = some (.cells #[.int .i64 8] 31 (0, 0)))
    (hb : Below w.heap.size w W) (hK : W.heap[D]? = some (.deferred (some []))) :
    (W.putObj D (.deferred none)).cell? ⟨w.heap.size + 1 + 1, 0, none⟩ = some (.slice none 0 0) ∧ (W.putObj D (.deferred none)).cell? ⟨w.heap.size + 1 + 1 + 1, 0, none⟩ = some (.int .i64 8) ∧ Below w.heap.size w (W.putObj D (.deferred none)) :=
  ⟨cell_kept (blk_cell g2 0) (grownBy_putObj' _ D (.deferred none)) (fun r e => by cases e; exact ⟨_, hK, rfl⟩), cell_kept (blk_cell g3 0) (grownBy_putObj' _ D (.deferred none)) (fun r e => by cases e; exact ⟨_, hK, rfl⟩), hb.trans (belowK_b (w := w) (Nat.le_refl _) _ D _ _ hD hK rfl rfl)⟩

section
attribute [local go_sem] Oper.semAt_some
set_option maxRecDepth 100000 in
set_option maxHeartbeats 4000000 in
theorem un_main (k : Nat) (A0 : Option Addr) (c0 : Nat) (l0 : List Int) (a1 a2 s1 : Int) (w : World) (hr0 : Kd.C (Kd.int .u8) w A0 l0.length l0) (hc0 : l0.length ≤ c0) (hs : bits_Size.f k a1 a2 = some (s1, 0)) (h1 : ¬ (l0.length : Int) < s1) (h2 : ¬ s1 < (l0.length : Int)) (hw0 : 0 ≤ a1) (hw1 : a1 ≤ 64) (hn0 : 0 ≤ a2) (hn1 : a2 ≤ 1048576) (hl : l0.length ≤ 1048576) (r1 : List Int) (r2 : Int)
    (h : (match urun a1 a2.toNat (allB l0 (8 * l0.length)) with | some r => (r.1, 0) | none => ([], 8)) = (r1, r2)) (n : Nat) (hn : 4 ≤ n) :
    CallsIn Fence.wide n Try.prog 34 #[.slice A0 l0.length c0, .int .i64 a1, .int .i64 a2] w fun e w' => ∃ v0_ : Value, e = .returned (.tuple #[v0_, .int .i64 r2]) ∧ Kd.R (Kd.int .u64) 22 w' w.heap.size (fun _ => True) v0_ r1 ∧ Below w.heap.size w w' := by
  have hro : Fence.wide.round = none := rfl
  have HR0 := Aside0.mk hr0
  have Hs := Aside0.mk hs
  have h1n : 1 ≤ n := by omega
  have hn2 := Aside0.mk (show 1 ≤ n - 1 by omega)
  clear hr0 hs
  have h1b := decide_eq_false h1
  have h2b := decide_eq_false h2
  clear h1 h2
  obtain ⟨m, rfl⟩ := Int.eq_ofNat_of_zero_le hn0
  rw [show ((m : Int)).toNat = m from rfl] at h
  have H := Aside0.mk h
  clear h
  have hmk := print_make_int (P := Try.prog) 56 22 (.int .u64 0) 8 (by kernel_rfl) (by kernel_rfl) rfl (by decide) (m : Int) hn0 (by omega)
  rw [show ((m : Int)).toNat = m from rfl] at hmk
  refine callsIn_of_wp_marks Try.func34 rfl trivial ?_ hro
  simp only [Try.ntmps34, List.size_toArray, List.length_cons, List.length_nil, Nat.reduceAdd, Nat.reduceSub, Array.replicate_succ, Array.replicate_zero, List.push_toArray, List.append_toArray, List.nil_append, List.cons_append]
  gi_wp2_with (refine ⟨trivial, ?_⟩; first | (gi_at_call 23; refine (callsIn_wide.2 (bits_Size.calls k a1 m s1 0 _ Hs.out)).mono ?_; rintro e w' ⟨rfl, ⟨nd, rfl⟩⟩) | (gi_at_call 25; refine (callsIn_wide.2 (bits_in A0 c0 l0 _)).mono ?_; rintro e w' ⟨rfl, rfl⟩))
  clear hmk
  refine named_in fun W0 hW0 => ?_
  have f0 : W0.heap[w.heap.size]? = some (.cells #[.int .i64 a1] 3 (0,0)) := by rw [hW0]; repeat (first | (refine heap_alloc_at _ _ ?_; ((try simp only [World.size_alloc, World.size_setCell, size_drewN]) <;> omega)) | (refine blk_alloc ?_ _) | (refine blk_drewN ?_ _))
  have f1 : W0.heap[w.heap.size + 1]? = some (.cells #[.int .i64 m] 3 (0,0)) := by rw [hW0]; repeat (first | (refine heap_alloc_at _ _ ?_; ((try simp only [World.size_alloc, World.size_setCell, size_drewN]) <;> omega)) | (refine blk_alloc ?_ _) | (refine blk_drewN ?_ _))
  have f2 : W0.heap[w.heap.size + 2]? = some (.cells #[.slice none 0 0] 56 (0,0)) := by rw [hW0]; repeat (first | (refine heap_alloc_at _ _ ?_; ((try simp only [World.size_alloc, World.size_setCell, size_drewN]) <;> omega)) | (refine blk_alloc ?_ _) | (refine blk_drewN ?_ _))
  have f3 : W0.heap[w.heap.size + 3]? = some (.cells #[.int .i64 0] 31 (0,0)) := by rw [hW0]; repeat (first | (refine heap_alloc_at _ _ ?_; ((try simp only [World.size_alloc, World.size_setCell, size_drewN]) <;> omega)) | (refine blk_alloc ?_ _) | (refine blk_drewN ?_ _))
  have f4 : W0.heap[w.heap.size + 4]? = some (.cells (madeCells #[Value.int IntKind.u64 0] m) 22 (0,0)) := by rw [hW0]; repeat (first | (refine heap_alloc_at _ _ ?_; ((try simp only [World.size_alloc, World.size_setCell, size_drewN]) <;> omega)) | (refine blk_alloc ?_ _) | (refine blk_drewN ?_ _))
  have f5 : W0.heap[w.heap.size + 5]? = some (.cells #[.slice (some ⟨w.heap.size + 4, 0, none⟩) m m] 56 (0,0)) := by rw [hW0]; repeat (first | (refine heap_alloc_at _ _ ?_; ((try simp only [World.size_alloc, World.size_setCell, size_drewN]) <;> omega)) | (refine blk_alloc ?_ _) | (refine blk_drewN ?_ _))
  have f6 : W0.heap[w.heap.size + 6]? = some (.cells #[.int .i64 0] 3 (0,0)) := by rw [hW0]; repeat (first | (refine heap_alloc_at _ _ ?_; ((try simp only [World.size_alloc, World.size_setCell, size_drewN]) <;> omega)) | (refine blk_alloc ?_ _) | (refine blk_drewN ?_ _))
  have f7 : W0.heap[w.heap.size + 7]? = some (.cells #[.int .i64 0] 3 (0,0)) := by rw [hW0]; repeat (first | (refine heap_alloc_at _ _ ?_; ((try simp only [World.size_alloc, World.size_setCell, size_drewN]) <;> omega)) | (refine blk_alloc ?_ _) | (refine blk_drewN ?_ _))
  have f8 : W0.heap[w.heap.size + 8]? = some (.cells #[.slice A0 l0.length c0] 29 (0,0)) := by rw [hW0]; repeat (first | (refine heap_alloc_at _ _ ?_; ((try simp only [World.size_alloc, World.size_setCell, size_drewN]) <;> omega)) | (refine blk_alloc ?_ _) | (refine blk_drewN ?_ _))
  have hb : Below w.heap.size w W0 := by rw [hW0]; repeat (first | exact Below.refl _ _ | (refine below_alloc ?_ _) | (refine pw_below_drewN ?_ _))
  have hsz : W0.heap.size = w.heap.size + 9 := by rw [hW0]; simp only [World.size_alloc, size_drewN]
  have frow : W0.ownsRow w.heap.size 22 1 (.slice (some ⟨w.heap.size + 4, 0, none⟩) m m) m (nums .u64 (List.replicate m 0)) := by
    have ho := own_made w w.heap.size 22 .u64 m (Nat.le_refl _) (by omega)
    refine ⟨ho.1, .inr ⟨w.heap.size + 4, m, _, rfl, by omega, f4, Nat.le_refl _, by simp [maxLen]; omega, by simp [size_madeCells], ?_⟩⟩
    rw [Nat.mul_one, List.take_of_length_le (by simp [size_madeCells])]
    apply List.ext_getElem
    · simp [nums, madeCells]
    · intro i h1 h2
      simp [nums, madeCells, Nat.mod_one]
  have FI := Aside0.mk (show UnI w a1 m [] W0 from ⟨List.replicate m 0, 0, 0, rfl, by simp, Nat.zero_le _, fun h => h, by omega, f0, f1, f2, f3, frow, f5, f6, f7, hb⟩)
  have HB := Aside0.mk hb
  have F8 := Aside0.mk (show W0.cell? ⟨w.heap.size + 8, 0, none⟩ = some (.slice A0 l0.length c0) from blk_cell f8 0)
  clear hW0 f0 f1 f2 f3 f4 f5 f6 f7 f8 hb frow
  refine wpIn_rangeFunc_ownG hro h1n (gf := 36) (lb := #[.pointer (some ⟨w.heap.size + 8, 0, none⟩)]) rfl trivial (enters_of Try.func36 (by kernel_rfl) rfl)
    (bits_stops Fence.wide (n - 1) trivial hro hn2.out (w.heap.size + 8) w.heap.size c0 A0 l0 w W0 HR0.out (by omega) rfl HB.out (by omega) F8.out) belowK_t (belowK_b (by omega)) (Below.refl _ _) (fun _ => rfl)
    (UnI w a1 m) (UnX w a1 m) (UnI_own w a1 m _ (by omega)) (UnX_own w a1 m _ (by omega)) FI.out ?a1 ?assign ?body ?done ?stop
  case assign =>
    intro l x W K hK
    gi_wp2
    exact hK
  case body =>
    rintro l pre x W ⟨out, k, t, h1, h2, h3, h4, h5, g0, g1, g2, g3, g4, g5, g6, g7, hb⟩ hlen
    clear F8 FI HB H HR0 Hs
    have c0 := blk_cell g0 0
    have c1 := blk_cell g1 0
    have c6 := blk_cell g6 0
    have c7 := blk_cell g7 0
    have F6 := blk_frozen g6 0
    have F7 := blk_frozen g7 0
    have hsn := urun_snoc a1 m pre x
    rw [h1, Option.bind_some] at hsn
    simp only [ust] at hsn
    by_cases hp : 0 < a1
    · have hpb := decide_eq_true hp
      by_cases hk : k < m
      · rw [if_pos ⟨hp, hk⟩] at hsn
        have hkb := decide_eq_true (show (k : Int) < (m : Int) by omega)
        gi_wp2
        rename_i K1 hK1
        have cr := (own_at g4 (k : Int) (by omega) (by omega)).1
        have fr := (own_at g4 (k : Int) (by omega) (by omega)).2
        rw [show ((k : Int)).toNat = k from rfl] at cr fr
        have c5 := blk_cell g5 0
        obtain ⟨y, hy⟩ : ∃ y, y = rd out (k : Int) := ⟨_, rfl⟩
        rw [← hy] at cr hsn
        clear hy
        refine region_tail_in 10 (by kernel_rfl) (by kernel_rfl) (by kernel_rfl) (fun w3 hw3 => ?_)
        simp only [List.take_succ_cons, List.take_zero, List.drop_succ_cons, List.drop_zero]
        have d5 : w3.cell? ⟨w.heap.size + 1 + 1 + 1 + 1 + 1, 0, none⟩ = some (.slice (some ⟨w.heap.size + 4, 0, none⟩) m m) := by rw [hw3]; exact c5
        have d6 : w3.cell? ⟨w.heap.size + 1 + 1 + 1 + 1 + 1 + 1, 0, none⟩ = some (.int .i64 k) := by rw [hw3]; exact c6
        have d7 : w3.cell? ⟨w.heap.size + 1 + 1 + 1 + 1 + 1 + 1 + 1, 0, none⟩ = some (.int .i64 t) := by rw [hw3]; exact c7
        have dr : w3.cell? ⟨w.heap.size + 4, k, none⟩ = some (.int .u64 y) := by rw [hw3]; exact cr
        have dfr : w3.frozen? ⟨w.heap.size + 4, k, none⟩ = false := by rw [hw3]; exact fr
        have e1 : 0 ≤ (k : Int) := by omega
        have e2 : (k : Int) < m := by omega
        have e3 : ((k : Int)).toNat = k := rfl
        have e4 : ((t : Int)).toNat = t := rfl
        have e5 : 0 ≤ (t : Int) := by omega
        repeat still_step
        refine wpStill_nil ?_
        clear e1 e2 e3 e4 e5 d5 d6 d7 dr
        refine wpList_named fun Q' hQ' => ?_
        go_wp2
        refine hQ'.out _ _ ⟨trivial, ?_⟩
        clear hQ' Q'
        obtain ⟨z, hz⟩ : ∃ z, z = bits .or .u64 y (IntKind.u64.wrap (IntKind.u64.wrap x * 2 ^ t)) := ⟨_, rfl⟩
        rw [← hz] at hsn ⊢
        simp only [Exit.then]
        refine hK1 _ _ ?_
        refine named_in fun W4 hW4 => ?_
        clear dfr c0 c1 c5 c6 c7 F6 F7 fr cr
        have go := own_store (k := .u64) g4 (k : Int) z
        rw [show ((k : Int)).toNat = k from rfl] at go
        have q : ∀ {j : Nat} {t : Nat} {cs : Array Value}, W.heap[j]? = some (.cells cs t (0, 0)) → j ≠ w.heap.size + 4 → W4.heap[j]? = some (.cells cs t (0, 0)) := fun {j t cs} hj hne => by rw [hW4]; exact blk_drew (blk_far hj (by simpa using hne) _)
        have hb4 : Below w.heap.size w W4 := by rw [hW4]; exact below_drew1 (hb.setCell (p := ⟨w.heap.size + 4, k, none⟩) (by simp) _)
        have hb4' : Below w.heap.size W W4 := by rw [hW4]; exact below_drew1 ((Below.refl _ W).setCell (p := ⟨w.heap.size + 4, k, none⟩) (by simp) _)
        have hk4 : KeepsOthers W W4 := by rw [hW4]; exact (KeepsOthers.setCell _ _ _).trans (KeepsOthers.drew _)
        have g4' : W4.ownsRow w.heap.size 22 1 (.slice (some ⟨w.heap.size + 4, 0, none⟩) m m) m (nums .u64 (out.set k z)) := by rw [hW4]; exact go.1.drew
        replace g0 := q g0 (by omega)
        replace g1 := q g1 (by omega)
        replace g2 := q g2 (by omega)
        replace g3 := q g3 (by omega)
        replace g5 := q g5 (by omega)
        replace g6 := q g6 (by omega)
        replace g7 := q g7 (by omega)
        clear q hW4 hw3 g4 go hz
        have c0 := blk_cell g0 0
        have c6 := blk_cell g6 0
        have c7 := blk_cell g7 0
        have F6 := blk_frozen g6 0
        have F7 := blk_frozen g7 0
        have ht := h4 hp
        clear h1 h4
        by_cases he : (t : Int) + 1 = a1
        · rw [if_pos he] at hsn
          have heb : ((t : Int) + 1 == a1) = true := by simpa using he
          gi_wp2
          have HU := un_set7 (x := 0) 0 (un_set6 (x := (k : Int) + 1) (k + 1) (un_set7 (x := a1) (t + 1) (un_H g0 g1 g2 g3 g4' g5 g6 g7 hb4) (by omega)) (by omega)) (by omega)
          refine ⟨?_, ?_, _, _, _, hsn, by simp [h2], by omega, fun _ => by simpa using hp, by omega, HU⟩
          · exact (hk4.trans ((KeepsOthers.setCell _ _ _).trans ((KeepsOthers.setCell _ _ _).trans (KeepsOthers.setCell _ _ _)))).from _
          · exact hb4'.trans ((((Below.refl _ _).setCell (by simp; omega) _).setCell (by simp; omega) _).setCell (by simp; omega) _)
        · rw [if_neg he] at hsn
          have heb : ((t : Int) + 1 == a1) = false := by simpa using he
          gi_wp2
          have HU := un_set7 (x := (t : Int) + 1) (t + 1) (un_H g0 g1 g2 g3 g4' g5 g6 g7 hb4) (by omega)
          refine ⟨?_, ?_, _, _, _, hsn, by simp [h2], by omega, fun _ => by omega, by omega, HU⟩
          · exact (hk4.trans (KeepsOthers.setCell _ _ _)).from _
          · exact hb4'.trans ((Below.refl _ _).setCell (by simp; omega) _)
      · have hkb := decide_eq_false (show ¬ (k : Int) < (m : Int) by omega)
        rw [if_neg (fun h => hk h.2)] at hsn
        by_cases hx : x = 0
        · rw [if_pos hx] at hsn
          have hxb : (x != 0) = false := by simpa using hx
          clear hx
          gi_wp2
          exact ⟨(KeepsOthers.refl W).from _, Below.refl _ W, _, _, _, hsn, h2, h3, h4, h5, un_H g0 g1 g2 g3 g4 g5 g6 g7 hb⟩
        · rw [if_neg hx] at hsn
          have hxb : (x != 0) = true := by simpa using hx
          clear hx
          have F2 := blk_frozen g2 0
          have F3 := blk_frozen g3 0
          have c2 := blk_cell g2 0
          have c3 := blk_cell g3 0
          gi_wp2
          exact un_left g2 g3 hb hsn
    · have hpb := decide_eq_false hp
      rw [if_neg (fun h => hp h.1)] at hsn
      by_cases hx : x = 0
      · rw [if_pos hx] at hsn
        have hxb : (x != 0) = false := by simpa using hx
        clear hx
        gi_wp2
        exact ⟨(KeepsOthers.refl W).from _, Below.refl _ W, _, _, _, hsn, h2, h3, h4, h5, un_H g0 g1 g2 g3 g4 g5 g6 g7 hb⟩
      · rw [if_neg hx] at hsn
        have hxb : (x != 0) = true := by simpa using hx
        clear hx
        have F2 := blk_frozen g2 0
        have F3 := blk_frozen g3 0
        have c2 := blk_cell g2 0
        have c3 := blk_cell g3 0
        gi_wp2
        exact un_left g2 g3 hb hsn
  case done =>
    rintro D ys W hD rfl ⟨out, k, t, h1, h2, h3, h4, h5, g0, g1, g2, g3, g4, g5, g6, g7, hb⟩ hK
    rw [h1] at H
    obtain ⟨rfl, rfl⟩ : out = r1 ∧ 0 = r2 := by simpa using H.out
    clear H h1 FI F8
    have c5 := blk_cell g5 0
    have F2 := blk_frozen g2 0
    have F3 := blk_frozen g3 0
    have c2 := blk_cell g2 0
    have c3 := blk_cell g3 0
    gi_wp2
    obtain ⟨hK', q2, q3, q4, q5⟩ := un_end h2 (by omega) g2 g3 g4 hb hK _ rfl
    refine ⟨by simp, .inl ⟨_, _, rfl, run_takeDeferred hK', ?_⟩⟩
    exact ⟨_, results_v2 rfl (.slice 22) (.int .i64) (by kernel_rfl) rfl (by kernel_rfl) rfl rfl rfl q2 q3, _, rfl, q4, q5⟩
  case stop =>
    rintro D c pre W hD ⟨mm, hmm, rfl⟩ ⟨rfl, h2, g2, g3, hb⟩ hK
    obtain ⟨q2, q3, q5⟩ := un_halt (by omega) g2 g3 hb hK
    rw [allB_split hmm, urun_app _ _ _ _ h2] at H
    obtain ⟨rfl, rfl⟩ : [] = r1 ∧ 8 = r2 := by simpa using H.out
    clear H FI F8
    gi_wp2
    refine ⟨by simp, .inl ⟨_, _, rfl, run_takeDeferred hK, ?_⟩⟩
    exact ⟨_, results_v2 rfl (.slice 22) (.int .i64) (by kernel_rfl) rfl (by kernel_rfl) rfl rfl rfl q2 q3, _, rfl, Kd.R_nil _ _ _ _ _, q5⟩
end
theorem un_badw (w : World) (a1 a2 r : Int) (nd : Nat) (W5 : World) (h5 : W5 = ((((((w.alloc (.cells #[.int .i64 a1] 3)).alloc (.cells #[.int .i64 a2] 3)).alloc (.cells #[.slice none 0 0] 56)).alloc (.cells #[.int .i64 0] 31)).drewN nd).setCell ⟨w.heap.size + 1 + 1, 0, none⟩ (.slice none 0 0)).setCell ⟨w.heap.size + 1 + 1 + 1, 0, none⟩ (.int .i64 r)) :
    W5.cell? ⟨w.heap.size + 1 + 1, 0, none⟩ = some (.slice none 0 0) ∧ W5.cell? ⟨w.heap.size + 1 + 1 + 1, 0, none⟩ = some (.int .i64 r) ∧ Below w.heap.size w W5 := by
  obtain ⟨W, hW⟩ : ∃ W, W = ((((w.alloc (.cells #[.int .i64 a1] 3)).alloc (.cells #[.int .i64 a2] 3)).alloc (.cells #[.slice none 0 0] 56)).alloc (.cells #[.int .i64 0] 31)).drewN nd := ⟨_, rfl⟩
  rw [← hW] at h5
  have g2 : W.heap[w.heap.size + 2]? = some (.cells #[.slice none 0 0] 56 (0,0)) := by rw [hW]; repeat (first | (refine heap_alloc_at _ _ ?_; ((try simp only [World.size_alloc, World.size_setCell, size_drewN]) <;> omega)) | (refine blk_alloc ?_ _) | (refine blk_drewN ?_ _))
  have g3 : W.heap[w.heap.size + 3]? = some (.cells #[.int .i64 0] 31 (0,0)) := by rw [hW]; repeat (first | (refine heap_alloc_at _ _ ?_; ((try simp only [World.size_alloc, World.size_setCell, size_drewN]) <;> omega)) | (refine blk_alloc ?_ _) | (refine blk_drewN ?_ _))
  have hb : Below w.heap.size w W := by rw [hW]; repeat (first | exact Below.refl _ _ | (refine below_alloc ?_ _) | (refine pw_below_drewN ?_ _))
  have a2 : W5.heap[w.heap.size + 2]? = some (.cells #[.slice none 0 0] 56 (0, 0)) := by rw [h5]; exact blk_far (blk_set g2 0 _) (by simp only []; omega) _
  have a3 : W5.heap[w.heap.size + 3]? = some (.cells #[.int .i64 r] 31 (0, 0)) := by rw [h5]; exact blk_set (blk_far g3 (by simp only []; omega) _) 0 _
  exact ⟨blk_cell a2 0, blk_cell a3 0, by rw [h5]; exact (hb.setCell (by simp only []; omega) _).setCell (by simp only []; omega) _⟩
set_option maxHeartbeats 1000000 in
theorem un_bad (k : Nat) (A0 : Option Addr) (c0 : Nat) (l0 : List Int) (a1 a2 s1 s2 : Int) (w : World) (hs : bits_Size.f k a1 a2 = some (s1, s2)) (r2 : Int) (hl : l0.length ≤ 9223372036854775807)
    (h : (s2 ≠ 0 ∧ r2 = s2) ∨ (s2 = 0 ∧ (l0.length : Int) < s1 ∧ r2 = 6) ∨ (s2 = 0 ∧ ¬ (l0.length : Int) < s1 ∧ s1 < (l0.length : Int) ∧ r2 = 7)) :
    Calls Try.prog 34 #[.slice A0 l0.length c0, .int .i64 a1, .int .i64 a2] w fun e w' => e = .returned (.tuple #[.slice none 0 0, .int .i64 r2]) ∧ Below w.heap.size w w' := by
  have Hs := Aside0.mk hs
  clear hs
  rcases h with ⟨h1, rfl⟩ | ⟨rfl, h2, rfl⟩ | ⟨rfl, h2, h3, rfl⟩
  · have hb : (r2 != 0) = true := by simpa using h1
    clear h1
    go_enter Try.func34, Try.ntmps34
    go_wp2_with (go_at_call 23; refine (bits_Size.calls k a1 a2 s1 r2 _ Hs.out).mono ?_; rintro e w' ⟨rfl, ⟨nd, rfl⟩⟩)
    obtain ⟨q2, q3, q5⟩ := un_badw w a1 a2 _ nd _ rfl
    refine bodyPost_ret (results_v2 rfl (.slice 22) (.int .i64) (by kernel_rfl) rfl (by kernel_rfl) rfl rfl rfl q2 q3) rfl ?_
    exact ⟨rfl, q5⟩
  · have h2b := decide_eq_true h2
    go_enter Try.func34, Try.ntmps34
    go_wp2_with (go_at_call 23; refine (bits_Size.calls k a1 a2 s1 0 _ Hs.out).mono ?_; rintro e w' ⟨rfl, ⟨nd, rfl⟩⟩)
    obtain ⟨q2, q3, q5⟩ := un_badw w a1 a2 _ nd _ rfl
    refine bodyPost_ret (results_v2 rfl (.slice 22) (.int .i64) (by kernel_rfl) rfl (by kernel_rfl) rfl rfl rfl q2 q3) rfl ?_
    exact ⟨rfl, q5⟩
  · have h2b := decide_eq_false h2
    have h3b := decide_eq_true h3
    go_enter Try.func34, Try.ntmps34
    go_wp2_with (go_at_call 23; refine (bits_Size.calls k a1 a2 s1 0 _ Hs.out).mono ?_; rintro e w' ⟨rfl, ⟨nd, rfl⟩⟩)
    obtain ⟨q2, q3, q5⟩ := un_badw w a1 a2 _ nd _ rfl
    refine bodyPost_ret (results_v2 rfl (.slice 22) (.int .i64) (by kernel_rfl) rfl (by kernel_rfl) rfl rfl rfl q2 q3) rfl ?_
    exact ⟨rfl, q5⟩
theorem bits_Unpack.calls (k : Nat) (A0 : Option Addr) (c0 : Nat) (l0 : List Int) (a1 a2 : Int) (r1 : List Int) (r2 : Int) (w : World) (hr0 : Kd.C (Kd.int .u8) w A0 l0.length l0) (hc0 : l0.length ≤ c0) (h : bits_Unpack.f k l0 a1 a2 = some (r1, r2)) :
    Calls Try.prog 34 #[.slice A0 l0.length c0, .int .i64 a1, .int .i64 a2] w fun e w' => ∃ v0_ : Value, e = .returned (.tuple #[v0_, .int .i64 r2]) ∧ Kd.R (Kd.int .u64) 22 w' w.heap.size (fun _ => True) v0_ r1 ∧ Below w.heap.size w w' := by
  unfold bits_Unpack.f at h
  obtain ⟨⟨s1, s2⟩, hs, h⟩ := Option.bind_eq_some_iff.1 h
  have hl : l0.length ≤ 9223372036854775807 := hr0.2.1
  have bad : ∀ r, ((s2 ≠ 0 ∧ r = s2) ∨ (s2 = 0 ∧ (l0.length : Int) < s1 ∧ r = 6) ∨ (s2 = 0 ∧ ¬ (l0.length : Int) < s1 ∧ s1 < (l0.length : Int) ∧ r = 7)) → ([], r) = (r1, r2) →
      Calls Try.prog 34 #[.slice A0 l0.length c0, .int .i64 a1, .int .i64 a2] w fun e w' => ∃ v0_ : Value, e = .returned (.tuple #[v0_, .int .i64 r2]) ∧ Kd.R (Kd.int .u64) 22 w' w.heap.size (fun _ => True) v0_ r1 ∧ Below w.heap.size w w' := by
    intro r hr e
    obtain ⟨rfl, rfl⟩ : [] = r1 ∧ r = r2 := by simpa using e
    exact (un_bad k A0 c0 l0 a1 a2 s1 s2 w hs r hl hr).mono fun e w' ⟨he, hb⟩ => ⟨_, he, Kd.R_nil _ _ _ _ _, hb⟩
  by_cases c : s2 = 0
  · rw [if_pos c] at h
    by_cases d : (l0.length : Int) < s1
    · rw [if_pos d] at h
      exact bad 6 (.inr (.inl ⟨c, d, rfl⟩)) (Option.some.inj h)
    · rw [if_neg d] at h
      by_cases e : s1 < (l0.length : Int)
      · rw [if_pos e] at h
        exact bad 7 (.inr (.inr ⟨c, d, e, rfl⟩)) (Option.some.inj h)
      · rw [if_neg e] at h
        by_cases g : 0 ≤ a1 ∧ a1 ≤ 64 ∧ 0 ≤ a2 ∧ a2 ≤ 1048576 ∧ l0.length ≤ 1048576
        · rw [if_pos g] at h
          subst c
          exact (callsIn_wide (n := 4)).1 (un_main k A0 c0 l0 a1 a2 s1 w hr0 hc0 hs d e g.1 g.2.1 g.2.2.1 g.2.2.2.1 g.2.2.2.2 r1 r2 (Option.some.inj h) 4 (Nat.le_refl _))
        · rw [if_neg g] at h
          exact absurd h (by simp)
  · rw [if_neg c] at h
    exact bad s2 (.inl ⟨c, rfl⟩) (Option.some.inj h)

end Go.Proofs.Ytgdlbfkblopoeaa.X
