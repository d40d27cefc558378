/- Written by a program of this session (wip/xprint.py) with the kit's printer: Go functions as Lean functions, and that the code comes to their answers. -/
import Derived.Test.YtgdlbfkblopoeaaX0
import Derived.Test.YtgdlbfkblopoeaaX3
import Derived.Test.YtgdlbfkblopoeaaBi
namespace Go.Proofs.Ytgdlbfkblopoeaa.X
open Go.RowKit Go.Proofs.YtgdlbfkblopoeaaW.PrintWords Go.Proofs.YtgdlbfkblopoeaaW.PrintLast Go.Proofs.YtgdlbfkblopoeaaW.PrintMore
attribute [local go_sem] max2_int min2_int max_two min_two max_three min_three max_four min_four   -- for this text's walks alone
set_option linter.unusedVariables false
set_option linter.unusedSimpArgs false

/-! ### marquetrylaw01_BitsAll: function 9 (by hand): two loops over the bits -/

theorem ba_drewN (w : World) (n : Nat) : (w.drewN n).heap.size = w.heap.size := rfl
theorem ba_new (w : World) (o : Obj) {g : Nat} (h : g = w.heap.size) : (w.alloc o).heap[g]? = some o := by subst h; exact blk_new w o
theorem ba_named {F : Fence} {n : Nat} {P : Program} {Q : Exit → Act → World → Prop} {a : Act} {w : World} {c : Code} (h : ∀ W, W = w → c.wpIn F n P Q a W) : c.wpIn F n P Q a w := h _ rfl
theorem ba_own {W W' : World} {row : Option Nat} {B g t : Nat} {cs : Array Value} (h : W.heap[g]? = some (.cells cs t (0, 0))) (hg : W.grownBy W' row) (hr : ∀ r, row = some r → B ≤ r ∧ ∃ o : Obj, W.heap[r]? = some o ∧ o.isCells = false) : W'.heap[g]? = some (.cells cs t (0, 0)) := by
  refine blk_grown h hg fun e => ?_
  obtain ⟨_, o, ho, hc⟩ := hr g e.symm
  rw [h] at ho
  cases ho
  cases hc
theorem ba_result {P : Program} {fn : Func} {p : Tmp} {ty : TypeId} (h : fn.results = #[.cell p ty]) {tmps : Array Value} {w : World} {a : Addr} {v : Value} (hu : P.underlying ty = some .bool) (hp : tmps.getD p undef = .pointer (some a)) (hv : w.cell? a = some v) : (results fn tmps).run P w = .ok v w := by
  have hagg : (isAgg ty).run P w = .ok false w := by
    unfold isAgg
    rw [Sem.run_bind, run_underlying hu w]
    simp
  have hl : (loadVar ty a).run P w = .ok v w := by simp [loadVar, Sem.run_bind, hagg, go_sem, hv]
  unfold results
  rw [h]
  simp only [List.mapM_toArray, Sem.run_bind, Sem.run_map, List.mapM_cons, List.mapM_nil, hp, asAddr, Sem.run_pure, Result.andThen_ok, hl]
  simp
theorem KeepsOthers.of_drewN (W : World) (n : Nat) : KeepsOthers W (W.drewN n) := ⟨Nat.le_refl _, fun _ _ h _ => h⟩
/-- The reference tells the bits alike. -/
def baP (k : Nat) (l : List Int) : Prop := ∀ i, i < 8 * l.length → marquetryref01_Bit.f k l (i : Int) = some (IntKind.u64.wrap (bitv (l.getD (i / 8) 0) (i % 8)))
instance (k : Nat) (l : List Int) : Decidable (baP k l) := by unfold baP; infer_instance
def marquetrylaw01_BitsAll.f (k : Nat) (l0 : List Int) (a1 : Int) : Option Bool := if (l0.length : Int) > 500 then some true else if baP k l0 then some true else none
theorem marquetrylaw01_BitsAll.mono : ∀ l0 a1 k, LeO (marquetrylaw01_BitsAll.f k l0 a1) (marquetrylaw01_BitsAll.f (k + 1) l0 a1) := by
  intro l0 a1 k
  unfold marquetrylaw01_BitsAll.f
  refine LeO.ite (LeO.refl _) ?_
  by_cases c : baP k l0
  · have d : baP (k + 1) l0 := fun i hi => marquetryref01_Bit.mono _ _ _ _ (c i hi)
    rw [if_pos c, if_pos d]; exact LeO.refl _
  · rw [if_neg c]; exact LeO.none _

/-- What lies in the boxes, n bits having come. -/
def BaH (w : World) (A0 : Option Addr) (m c0 : Nat) (a1 : Int) (n : Nat) (W : World) : Prop :=
  W.heap[w.heap.size]? = some (.cells #[.slice A0 m c0] 29 (0, 0)) ∧ W.heap[w.heap.size + 1]? = some (.cells #[.int .i64 a1] 3 (0, 0)) ∧ W.heap[w.heap.size + 2]? = some (.cells #[.bool false] 4 (0, 0)) ∧
    W.heap[w.heap.size + 3]? = some (.cells #[.slice A0 m c0] 29 (0, 0)) ∧ W.heap[w.heap.size + 4]? = some (.cells #[.int .i64 n] 3 (0, 0)) ∧ Below w.heap.size w W
theorem BaH_own {w W W' : World} {A0 : Option Addr} {m c0 : Nat} {a1 : Int} {n B : Nat} {row : Option Nat} (hB : w.heap.size ≤ B) (h : BaH w A0 m c0 a1 n W) (hg : W.grownBy W' row) (hr : ∀ r, row = some r → B ≤ r ∧ ∃ o : Obj, W.heap[r]? = some o ∧ o.isCells = false) : BaH w A0 m c0 a1 n W' := by
  obtain ⟨g0, g1, g2, g3, g4, hb⟩ := h
  exact ⟨ba_own g0 hg hr, ba_own g1 hg hr, ba_own g2 hg hr, ba_own g3 hg hr, ba_own g4 hg hr, hb.grown hg hb.size (fun r e => Nat.le_trans hB (hr r e).1)⟩
theorem BaH_far {w W : World} {A0 : Option Addr} {m c0 : Nat} {a1 : Int} {n g : Nat} (h : BaH w A0 m c0 a1 n W) (hg : w.heap.size + 5 ≤ g) (v : Value) : BaH w A0 m c0 a1 n (W.setCell ⟨g, 0, none⟩ v) := by
  obtain ⟨g0, g1, g2, g3, g4, hb⟩ := h
  exact ⟨blk_far g0 (by simp only []; omega) _, blk_far g1 (by simp only []; omega) _, blk_far g2 (by simp only []; omega) _, blk_far g3 (by simp only []; omega) _, blk_far g4 (by simp only []; omega) _, hb.setCell (by simp only []; omega) _⟩
theorem BaH_n {w W : World} {A0 : Option Addr} {m c0 : Nat} {a1 x : Int} {n n' : Nat} (h : BaH w A0 m c0 a1 n W) (hx : x = (n' : Int)) : BaH w A0 m c0 a1 n' (W.setCell ⟨w.heap.size + 1 + 1 + 1 + 1, 0, none⟩ (.int .i64 x)) := by
  subst hx
  obtain ⟨g0, g1, g2, g3, g4, hb⟩ := h
  exact ⟨blk_far g0 (by simp only []; omega) _, blk_far g1 (by simp only []; omega) _, blk_far g2 (by simp only []; omega) _, blk_far g3 (by simp only []; omega) _, blk_set g4 0 _, hb.setCell (by simp only []; omega) _⟩
theorem BaH_drewN {w W : World} {A0 : Option Addr} {m c0 : Nat} {a1 : Int} {n : Nat} (h : BaH w A0 m c0 a1 n W) (d : Nat) : BaH w A0 m c0 a1 n (W.drewN d) := by
  obtain ⟨g0, g1, g2, g3, g4, hb⟩ := h
  exact ⟨g0, g1, g2, g3, g4, pw_below_drewN hb _⟩
theorem BaH_alloc {w W : World} {A0 : Option Addr} {m c0 : Nat} {a1 : Int} {n : Nat} (h : BaH w A0 m c0 a1 n W) (o : Obj) : BaH w A0 m c0 a1 n (W.alloc o) := by
  obtain ⟨g0, g1, g2, g3, g4, hb⟩ := h
  exact ⟨blk_alloc g0 _, blk_alloc g1 _, blk_alloc g2 _, blk_alloc g3 _, blk_alloc g4 _, below_alloc hb _⟩
def BaX (l0 : List Int) (c : Code) (pre : List Int) (W : World) : Prop := ∃ pre' x, pre = pre' ++ [x] ∧ IntKind.u64.wrap x ≠ IntKind.u64.wrap (bitv (l0.getD (pre'.length / 8) 0) (pre'.length % 8))
theorem allB_last {l pre : List Int} {x : Int} {m : Nat} (h : allB l m = pre ++ [x]) : x = bitv (l.getD (pre.length / 8) 0) (pre.length % 8) := by
  obtain ⟨b, hb⟩ : ∃ b : Nat → Int, b = fun j => bitv (l.getD (j / 8) 0) (j % 8) := ⟨_, rfl⟩
  have e : allB l m = (List.range m).map b := by rw [hb]; rfl
  have e2 : bitv (l.getD (pre.length / 8) 0) (pre.length % 8) = b pre.length := by rw [hb]
  rw [e2]
  rw [e] at h
  clear e e2 hb
  have hl : m = pre.length + 1 := by have := congrArg List.length h; simpa using this
  subst hl
  have := congrArg (fun q => q[pre.length]?) h
  simp at this
  exact this.symm

/-- Between two rounds of the second loop. -/
def BaI2 (w : World) (A0 : Option Addr) (m c0 : Nat) (a1 : Int) (n D g : Nat) (pre : List Int) (W : World) : Prop :=
  (pre.length = 0 ∨ (pre.length : Int) < a1) ∧ BaH w A0 m c0 a1 n W ∧ W.heap[g]? = some (.cells #[.int .i64 pre.length] 3 (0, 0)) ∧ W.heap[D]? = some (.deferred (some []))
def BaX2 (w : World) (A0 : Option Addr) (m c0 : Nat) (a1 : Int) (n D g : Nat) (c : Code) (pre : List Int) (W : World) : Prop :=
  c = .exit 2 ∧ (pre.length = 1 ∨ (pre.length : Int) - 1 < a1 ∧ 1 ≤ pre.length) ∧ a1 ≤ (pre.length : Int) ∧ BaH w A0 m c0 a1 n W ∧ W.heap[g]? = some (.cells #[.int .i64 pre.length] 3 (0, 0)) ∧ W.heap[D]? = some (.deferred (some []))
theorem BaI2_own {w : World} {A0 : Option Addr} {m c0 : Nat} {a1 : Int} {n D g B : Nat} (hB : w.heap.size ≤ B) (hD : D < B) (hg0 : g < B) : OwnFrom B (BaI2 w A0 m c0 a1 n D g) := by
  rintro pre W W' row ⟨h1, h2, h3, h4⟩ hg hr
  exact ⟨h1, BaH_own hB h2 hg hr, ba_own h3 hg hr, blk_grown h4 hg fun e => by have := (hr D e.symm).1; omega⟩
theorem BaX2_own {w : World} {A0 : Option Addr} {m c0 : Nat} {a1 : Int} {n D g B : Nat} (hB : w.heap.size ≤ B) (hD : D < B) (hg0 : g < B) (c : Code) : OwnFrom B (BaX2 w A0 m c0 a1 n D g c) := by
  rintro pre W W' row ⟨h1, h1', h1'', h2, h3, h4⟩ hg hr
  exact ⟨h1, h1', h1'', BaH_own hB h2 hg hr, ba_own h3 hg hr, blk_grown h4 hg fun e => by have := (hr D e.symm).1; omega⟩

theorem ba_end {n : Nat} {tmps : Array Value} {w W2 : World} {D1 D2 : Nat} {v : Bool} (hv : v = true) (h1 : w.heap.size ≤ D1) (h12 : D1 ≠ D2) (h2 : w.heap.size ≤ D2) (g2 : W2.heap[w.heap.size + 2]? = some (.cells #[.bool false] 4 (0, 0))) (hb : Below w.heap.size w W2)
    (hD1 : W2.heap[D1]? = some (.deferred (some []))) (hD2 : W2.heap[D2]? = some (.deferred (some []))) (hp : tmps.getD 4 undef = .pointer (some ⟨w.heap.size + 1 + 1, 0, none⟩)) :
    bodyPostM Fence.wide n Try.prog Try.f9 (fun e w' => e = .returned (.bool true) ∧ Below w.heap.size w w') .ret { tmps := tmps, defers := [{ target := .collected D2, args := #[] }, { target := .collected D1, args := #[] }] } (W2.setCell ⟨w.heap.size + 1 + 1, 0, none⟩ (.bool v)) := by
  subst hv
  obtain ⟨W3, hW3⟩ : ∃ W3, W3 = W2.setCell ⟨w.heap.size + 1 + 1, 0, none⟩ (.bool true) := ⟨_, rfl⟩
  rw [← hW3]
  have a2 : W3.heap[w.heap.size + 2]? = some (.cells #[.bool true] 4 (0, 0)) := by rw [hW3]; exact blk_set g2 0 _
  have k1 : W3.heap[D1]? = some (.deferred (some [])) := by rw [hW3]; exact (KeepsOthers.setCell _ _ _).same D1 _ hD1 rfl
  have k2 : W3.heap[D2]? = some (.deferred (some [])) := by rw [hW3]; exact (KeepsOthers.setCell _ _ _).same D2 _ hD2 rfl
  have b3 : Below w.heap.size w W3 := by rw [hW3]; exact hb.setCell (by simp only []; omega) _
  clear hW3
  have k1' : (W3.putObj D2 (.deferred none)).heap[D1]? = some (.deferred (some [])) := (World.putObj_heap_other h12).trans k1
  have c2 : (W3.putObj D2 (.deferred none)).cell? ⟨w.heap.size + 1 + 1, 0, none⟩ = some (.bool true) := cell_kept (blk_cell a2 0) (grownBy_putObj' _ D2 (.deferred none)) (fun r e => by cases e; exact ⟨_, k2, rfl⟩)
  have c2' : ((W3.putObj D2 (.deferred none)).putObj D1 (.deferred none)).cell? ⟨w.heap.size + 1 + 1, 0, none⟩ = some (.bool true) := cell_kept c2 (grownBy_putObj' _ D1 (.deferred none)) (fun r e => by cases e; exact ⟨_, k1', rfl⟩)
  have b4 := b3.trans (belowK_b (w := w) (Nat.le_refl _) W3 D2 _ (.deferred none) h2 k2 rfl rfl)
  have b5 := b4.trans (belowK_b (w := w) (Nat.le_refl _) _ D1 _ (.deferred none) h1 k1' rfl rfl)
  refine ⟨by simp, .inl ⟨_, _, rfl, run_takeDeferred k2, ?_⟩⟩
  refine ⟨by simp, .inl ⟨_, _, rfl, run_takeDeferred k1', ?_⟩⟩
  exact ⟨_, ba_result rfl (by kernel_rfl) hp c2', rfl, b5⟩

section
attribute [local go_sem] Oper.semAt_some
set_option maxRecDepth 100000 in
set_option maxHeartbeats 4000000 in
theorem ba_main (k : Nat) (A0 : Option Addr) (c0 : Nat) (l0 : List Int) (a1 : Int) (w : World) (hr0 : Kd.C (Kd.int .u8) w A0 l0.length l0) (hc0 : l0.length ≤ c0) (hlen : ¬ (l0.length : Int) > 500) (hP : baP k l0) (n : Nat) (hn : 4 ≤ n) :
    CallsIn Fence.wide n Try.prog 9 #[.slice A0 l0.length c0, .int .i64 a1] w fun e w' => e = .returned (.bool true) ∧ Below w.heap.size w w' := by
  have hro : Fence.wide.round = none := rfl
  have HR0 := Aside0.mk hr0
  have hP := Aside0.mk hP
  have h1n : 1 ≤ n := by omega
  have hn2 := Aside0.mk (show 1 ≤ n - 1 by omega)
  have hl500 : l0.length ≤ 500 := by omega
  clear hr0
  have h1b := decide_eq_false (show ¬ 500 < (l0.length : Int) from hlen)
  clear hlen
  refine callsIn_of_wp_marks Try.func9 rfl trivial ?_ hro
  simp only [Try.ntmps9, List.size_toArray, List.length_cons, List.length_nil, Nat.reduceAdd, Nat.reduceSub, Array.replicate_succ, Array.replicate_zero, List.push_toArray, List.append_toArray, List.nil_append, List.cons_append]
  have hnil : ∀ (b : Addr) (W : World), (binOp .eql 38 (.func (.func 36) #[] #[.pointer (some b)]) .nilFunc).run Try.prog W = .ok (.bool false) W := by
    intro b W
    have e : (Op.equal 38 (.func (.func 36) #[] #[.pointer (some b)]) .nilFunc).run Try.prog W = .ok false W := by kernel_rfl
    simp [binOp, go_sem, e]
  gi_wp2_with (refine ⟨trivial, ?_⟩; gi_at_call 25; refine (callsIn_wide.2 (bits_in A0 c0 l0 _)).mono ?_; rintro e w' ⟨rfl, rfl⟩)
  refine ba_named fun W0 hW0 => ?_
  have F0 : BaH w A0 l0.length c0 a1 0 W0 := by
    rw [hW0]
    refine ⟨?_, ?_, ?_, ?_, ?_, ?_⟩
    rotate_right
    · exact below_alloc (below_alloc (below_alloc (below_alloc (below_alloc (Below.refl _ _) _) _) _) _) _
    all_goals repeat (first | (refine ba_new _ _ ?_; ((try simp only [World.size_alloc]) <;> omega)) | (refine blk_alloc ?_ _))
  have hsz : W0.heap.size = w.heap.size + 5 := by rw [hW0]; simp only [World.size_alloc]
  have FI := Aside0.mk F0
  have HB := Aside0.mk F0.2.2.2.2.2
  have F8 := Aside0.mk (show W0.cell? ⟨w.heap.size + 3, 0, none⟩ = some (.slice A0 l0.length c0) from blk_cell F0.2.2.2.1 0)
  clear hW0 F0 hnil
  refine wpIn_rangeFunc_ownG hro h1n (gf := 36) (lb := #[.pointer (some ⟨w.heap.size + 3, 0, none⟩)]) rfl trivial (enters_of Try.func36 (by kernel_rfl) rfl)
    (bits_stops Fence.wide (n - 1) trivial hro hn2.out (w.heap.size + 3) w.heap.size c0 A0 l0 w W0 HR0.out (by omega) rfl HB.out (by omega) F8.out) belowK_t (belowK_b (by omega)) (Below.refl _ _) (fun _ => rfl)
    (fun pre W => BaH w A0 l0.length c0 a1 pre.length W) (BaX l0) (fun s W W' row h hg hr => BaH_own (by omega) h hg hr) (fun _ _ _ _ _ h _ _ => h) FI.out ?a1 ?assign ?body ?done ?stop
  case assign =>
    intro l x W K hK
    gi_wp2
    exact hK
  case body =>
    rintro l pre x W hI hlen
    have hbit := Aside0.mk (hP.out pre.length hlen)
    have hCW := Aside0.mk (Kd.C_below HR0.out hI.2.2.2.2.2)
    have hn3 : 1 ≤ n - 1 - 1 := by omega
    obtain ⟨g0, g1, g2, g3, g4, hb⟩ := hI
    have HI := Aside0.mk (show BaH w A0 l0.length c0 a1 pre.length W from ⟨g0, g1, g2, g3, g4, hb⟩)
    have HB2 := Aside0.mk hb
    have c0' := blk_cell g0 0
    have c4 := blk_cell g4 0
    have F4 := blk_frozen g4 0
    have c2 := blk_cell g2 0
    have F2 := blk_frozen g2 0
    have hge := decide_eq_false (show ¬ (8 * (l0.length : Int)) ≤ (pre.length : Int) by omega)
    have hpl : pre.length ≤ 4000 := by omega
    clear g0 g1 g2 g3 g4 hb FI HB F8 hlen
    by_cases he : IntKind.u64.wrap x = IntKind.u64.wrap (bitv (l0.getD (pre.length / 8) 0) (pre.length % 8))
    · obtain ⟨y, hy⟩ : ∃ y, y = IntKind.u64.wrap x := ⟨_, rfl⟩
      rw [← he, ← hy] at hbit
      have hneb : (IntKind.u64.wrap x != y) = false := by simp [hy]
      clear he
      gi_wp2_with (refine ⟨trivial, ?_⟩; gi_at_call 26; refine (CallsIn.inRound l (callsIn_wide.2 (marquetryref01_Bit.calls k A0 c0 l0 (pre.length : Int) y _ hCW.out hc0 hbit.out))).mono ?_; rintro e w' ⟨rfl, ⟨nd, rfl⟩⟩)
      have HI2 := BaH_n (x := (pre.length : Int) + 1) (n' := (pre ++ [x]).length) (BaH_drewN HI.out nd) (by simp)
      refine ⟨(KeepsOthers.trans (KeepsOthers.of_drewN W nd) (KeepsOthers.setCell _ _ _)).from _, (pw_below_drewN (Below.refl _ W) nd).setCell (by simp only []; omega) _, HI2⟩
    · have hneb : (IntKind.u64.wrap x != IntKind.u64.wrap (bitv (l0.getD (pre.length / 8) 0) (pre.length % 8))) = true := by simpa using he
      obtain ⟨y, hy⟩ : ∃ y, y = IntKind.u64.wrap (bitv (l0.getD (pre.length / 8) 0) (pre.length % 8)) := ⟨_, rfl⟩
      rw [← hy] at hbit hneb
      have He := Aside0.mk he
      clear hy he
      gi_wp2_with (refine ⟨trivial, ?_⟩; gi_at_call 26; refine (CallsIn.inRound l (callsIn_wide.2 (marquetryref01_Bit.calls k A0 c0 l0 (pre.length : Int) y _ hCW.out hc0 hbit.out))).mono ?_; rintro e w' ⟨rfl, ⟨nd, rfl⟩⟩)
      exact ⟨(KeepsOthers.trans (KeepsOthers.of_drewN W nd) (KeepsOthers.setCell _ _ _)).from _, pre, x, rfl, He.out⟩
  case done =>
    rintro D1 ys W hD1 rfl HI1 hK1
    have HI1 := Aside0.mk HI1
    clear FI HB F8
    gi_wp2
    refine ba_named fun W1 hW1 => ?_
    have hWsz := HI1.out.2.2.2.2.2.size
    have hDlt := (Array.getElem?_eq_some_iff.1 hK1).1
    have hs0 : w.heap.size + 5 ≤ W.heap.size := by have := (Array.getElem?_eq_some_iff.1 HI1.out.2.2.2.2.1).1; omega
    have F1 : BaI2 w A0 l0.length c0 a1 (8 * l0.length) D1 W.heap.size [] W1 := by
      rw [hW1, ← allB_length l0 (8 * l0.length)]
      exact ⟨.inl rfl, BaH_alloc HI1.out _, blk_new W _, blk_alloc hK1 _⟩
    have FI := Aside0.mk F1
    have HB := Aside0.mk F1.2.1.2.2.2.2.2
    have hsz1 : W1.heap.size = W.heap.size + 1 := by rw [hW1]; simp only [World.size_alloc]
    have F8 := Aside0.mk (show W1.cell? ⟨w.heap.size + 3, 0, none⟩ = some (.slice A0 l0.length c0) from blk_cell F1.2.1.2.2.2.1 0)
    clear hW1 F1 hK1 HI1
    refine wpIn_rangeFunc_ownG hro h1n (gf := 36) (lb := #[.pointer (some ⟨w.heap.size + 3, 0, none⟩)]) rfl trivial (enters_of Try.func36 (by kernel_rfl) rfl)
      (bits_stops Fence.wide (n - 1) trivial hro hn2.out (w.heap.size + 3) w.heap.size c0 A0 l0 w W1 HR0.out (by omega) rfl HB.out (by omega) F8.out) belowK_t (belowK_b (by omega)) (Below.refl _ _) (fun _ => rfl)
      (BaI2 w A0 l0.length c0 a1 (8 * l0.length) D1 W.heap.size) (BaX2 w A0 l0.length c0 a1 (8 * l0.length) D1 W.heap.size) (BaI2_own (by omega) (by omega) (by omega)) (fun c => BaX2_own (by omega) (by omega) (by omega) c) FI.out ?a2 ?assign2 ?body2 ?done2 ?stop2
    case assign2 =>
      intro l x W K hK
      gi_wp2
      exact hK
    case body2 =>
      rintro l pre x W2 ⟨hlt, hI, hL, hDD⟩ hlen
      have HI := Aside0.mk hI
      have HL := Aside0.mk hL
      have HDD := Aside0.mk hDD
      have Hlt := Aside0.mk hlt
      have cL := blk_cell hL 0
      have fL := blk_frozen hL 0
      have c1 := blk_cell hI.2.1 0
      have hpl : pre.length ≤ 4000 := by omega
      clear hI hL hDD hlt FI HB F8
      by_cases he : a1 ≤ (pre.length : Int) + 1
      · have heb := decide_eq_true he
        gi_wp2
        have hlt := Hlt.out
        refine ⟨(KeepsOthers.setCell _ _ _).from _, rfl, ?_, ?_, BaH_far HI.out hs0 _, ?_, (KeepsOthers.setCell _ _ _).same D1 _ HDD.out rfl⟩
        · simp only [List.length_append, List.length_singleton]; omega
        · simp only [List.length_append, List.length_singleton]; omega
        · rw [show ((pre ++ [x]).length : Int) = (pre.length : Int) + 1 by simp]; exact blk_set HL.out 0 _
      · have heb := decide_eq_false he
        gi_wp2
        have hlt := Hlt.out
        refine ⟨(KeepsOthers.setCell _ _ _).from _, (Below.refl _ W2).setCell (by simp only []; omega) _, ?_, BaH_far HI.out hs0 _, ?_, (KeepsOthers.setCell _ _ _).same D1 _ HDD.out rfl⟩
        · simp only [List.length_append, List.length_singleton]; omega
        · rw [show ((pre ++ [x]).length : Int) = (pre.length : Int) + 1 by simp]; exact blk_set HL.out 0 _
    case done2 =>
      rintro D2 ys W2 hD2 rfl ⟨hlt, hI, hL, hDD⟩ hK2
      rw [allB_length] at hlt hL
      rw [show ((8 * l0.length : Nat) : Int) = 8 * (l0.length : Int) by omega] at hlt hL
      obtain ⟨g0, g1, g2, g3, g4, hb⟩ := hI
      rw [show ((8 * l0.length : Nat) : Int) = 8 * (l0.length : Int) by omega] at g4
      have c0' := blk_cell g0 0
      have c1 := blk_cell g1 0
      have c4 := blk_cell g4 0
      have cL := blk_cell hL 0
      have c2 := blk_cell g2 0
      have F2 := blk_frozen g2 0
      have G2 := Aside0.mk g2
      have GB := Aside0.mk hb
      have GD := Aside0.mk hDD
      clear g0 g1 g2 g3 g4 hb hL hDD FI HB F8
      gi_wp2
      all_goals exact ba_end (by first | rfl | (simp only [beq_iff_eq]; omega)) (by omega) (by omega) (by omega) G2.out GB.out GD.out hK2 rfl
    case stop2 =>
      rintro D2 c pre W2 hD2 ⟨mm, hmm, rfl⟩ ⟨rfl, hlt, hle, hI, hL, hDD⟩ hK2
      rw [allB_length] at hlt hL hle
      obtain ⟨g0, g1, g2, g3, g4, hb⟩ := hI
      rw [show ((8 * l0.length : Nat) : Int) = 8 * (l0.length : Int) by omega] at g4
      have c0' := blk_cell g0 0
      have c1 := blk_cell g1 0
      have c4 := blk_cell g4 0
      have cL := blk_cell hL 0
      have c2 := blk_cell g2 0
      have F2 := blk_frozen g2 0
      have G2 := Aside0.mk g2
      have GB := Aside0.mk hb
      have GD := Aside0.mk hDD
      clear g0 g1 g2 g3 g4 hb hL hDD FI HB F8
      gi_wp2
      all_goals exact ba_end (by first | rfl | (simp only [beq_iff_eq]; omega)) (by omega) (by omega) (by omega) G2.out GB.out GD.out hK2 rfl
  case stop =>
    rintro D c pre W hD ⟨mm, hmm, rfl⟩ ⟨pre', x, hpre, hne⟩ hK
    exact absurd (by rw [allB_last hpre]) hne
end

set_option maxHeartbeats 1000000 in
theorem ba_long (A0 : Option Addr) (c0 : Nat) (l0 : List Int) (a1 : Int) (w : World) (hc0 : l0.length ≤ c0) (hm : l0.length ≤ 9223372036854775807) (h : (l0.length : Int) > 500) :
    Calls Try.prog 9 #[.slice A0 l0.length c0, .int .i64 a1] w fun e w' => e = .returned (.bool true) ∧ Below w.heap.size w w' := by
  have h1b := decide_eq_true (show 500 < (l0.length : Int) from h)
  clear h
  go_enter Try.func9, Try.ntmps9
  go_wp2
  have c2 : (((w.alloc (.cells #[.slice A0 l0.length c0] 29)).alloc (.cells #[.int .i64 a1] 3)).alloc (.cells #[.bool true] 4)).cell? ⟨w.heap.size + 1 + 1, 0, none⟩ = some (.bool true) := blk_cell (ba_new _ _ (by simp only [World.size_alloc])) 0
  refine bodyPost_ret (ba_result rfl (by kernel_rfl) rfl c2) rfl ?_
  exact ⟨rfl, below_alloc (below_alloc (below_alloc (Below.refl _ _) _) _) _⟩
theorem marquetrylaw01_BitsAll.calls (k : Nat) (A0 : Option Addr) (c0 : Nat) (l0 : List Int) (a1 : Int) (r : Bool) (w : World) (hr0 : Kd.C (Kd.int .u8) w A0 l0.length l0) (hc0 : l0.length ≤ c0) (h : marquetrylaw01_BitsAll.f k l0 a1 = some r) :
    Calls Try.prog 9 #[.slice A0 l0.length c0, .int .i64 a1] w fun e w' => e = .returned (.bool r) ∧ Below w.heap.size w w' := by
  unfold marquetrylaw01_BitsAll.f at h
  by_cases c : (l0.length : Int) > 500
  · rw [if_pos c] at h
    obtain rfl := Option.some.inj h
    exact ba_long A0 c0 l0 a1 w hc0 hr0.2.1 c
  · rw [if_neg c] at h
    by_cases d : baP k l0
    · rw [if_pos d] at h
      obtain rfl := Option.some.inj h
      exact (callsIn_wide (n := 4)).1 (ba_main k A0 c0 l0 a1 w hr0 hc0 c d 4 (Nat.le_refl _))
    · rw [if_neg d] at h; exact absurd h (by simp)

/-- The one plain statement of marquetrylaw01_BitsAll. -/
def marquetrylaw01_BitsAll.Pure : Prop := ∀ (l0 : List Int) (a1 : Int), ((∀ x_ ∈ l0, (Lit.int .u8 x_).wf = true) ∧ l0.length ≤ maxLen ∧ l0.length * 1 ≤ 140737488351232) → (Lit.int .i64 a1).wf = true → ∃ k, marquetrylaw01_BitsAll.f k l0 a1 = some true

end Go.Proofs.Ytgdlbfkblopoeaa.X
