/- HybridBack: texts of this seat in one (wip/merge.py): X25, X26, Bx, Nx, L11z, L11, L11w, L1t, X47, L1, Px, L1p, L11t, L11x, X48. -/
import Derived.Test.YtpibhiacmceekaaGHybridBack0
import Derived.Test.YtpibhiacmceekaaGHybridBack2
import Derived.Laws.BitsLemmas
import Derived.Laws.Bits64
import Derived.IntWalk
import Derived.RowKit
namespace Go.Proofs.Ytpibhiacmceekaa.X
open Go.RowKit Go.Proofs.YtpibhiacmceekaaW.PrintWords Go.Proofs.YtpibhiacmceekaaW.PrintLast Go.Proofs.YtpibhiacmceekaaW.PrintMore
attribute [local go_sem] max2_int min2_int max_two min_two max_three min_three max_four min_four   -- for this text's walks alone
set_option linter.unusedVariables false
set_option linter.unusedSimpArgs false

/-! ### marquetryref01_Pack: function 60 -/
mutual
def marquetryref01_Pack.j0 : Nat → Int → List Int → Bool → Option (List Int × Int)
 | 0, _, _, _ => none
 | k + 1, x0, x1, x18 => if x18 = true then (some (([] : List Int), 2)) else (marquetryref01_Pack.l0 k x0 x1 0)
def marquetryref01_Pack.l0 : Nat → Int → List Int → Int → Option (List Int × Int)
 | 0, _, _, _ => none
 | k + 1, x0, x1, x6 => if x6 < (x1.length : Int) then (if 0 ≤ x6 then ((marquetryref01_Width.f k (rd x1 x6)).bind fun t195 => (if t195 > x0 then (some (([] : List Int), 2)) else (marquetryref01_Pack.l0 k x0 x1 (wrap64 (x6 + 1))))) else (none)) else ((marquetryref01_Size.f k x0 (x1.length : Int)).bind fun bt196 => (if bt196.2 = 0 then (if 0 ≤ bt196.1 then (if (bt196.1 : Int).toNat ≤ 281474976710656 then (marquetryref01_Pack.l1 k x0 x1 (List.replicate (bt196.1 : Int).toNat 0) 0) else (none)) else (none)) else (some (([] : List Int), bt196.2))))
def marquetryref01_Pack.l1 : Nat → Int → List Int → List Int → Int → Option (List Int × Int)
 | 0, _, _, _, _ => none
 | k + 1, x0, x1, x9, x10 => if x10 < (x1.length : Int) then (if 0 ≤ x10 then (marquetryref01_Pack.l2 k x0 x1 x9 x10 (rd x1 x10) 0) else (none)) else (some (x9, 0))
def marquetryref01_Pack.l2 : Nat → Int → List Int → List Int → Int → Int → Int → Option (List Int × Int)
 | 0, _, _, _, _, _, _ => none
 | k + 1, x0, x1, x9, x10, x11, x12 => if x12 < x0 then (if (Int.tmod x11 2) = 1 then (if 0 ≤ (wrap64 (Int.tdiv (wrap64 ((wrap64 (x10 * x0)) + x12)) 8)) then (if (wrap64 (Int.tdiv (wrap64 ((wrap64 (x10 * x0)) + x12)) 8)) < (x9.length : Int) then ((marquetryref01_powers.f k (Int.tmod (wrap64 ((wrap64 (x10 * x0)) + x12)) 8)).bind fun t203 => (marquetryref01_Pack.l2 k x0 x1 (x9.set ((wrap64 (Int.tdiv (wrap64 ((wrap64 (x10 * x0)) + x12)) 8)) : Int).toNat (((rd x9 (wrap64 (Int.tdiv (wrap64 ((wrap64 (x10 * x0)) + x12)) 8))) + t203) % 256)) x10 (IntKind.u64.wrap (Int.tdiv x11 2)) (wrap64 (x12 + 1)))) else (none)) else (none)) else (marquetryref01_Pack.l2 k x0 x1 x9 x10 (IntKind.u64.wrap (Int.tdiv x11 2)) (wrap64 (x12 + 1)))) else (marquetryref01_Pack.l1 k x0 x1 x9 (wrap64 (x10 + 1)))
end
def marquetryref01_Pack.f (k : Nat) (a0 : Int) (l1 : List Int) : Option (List Int × Int) := if a0 < 0 then (marquetryref01_Pack.j0 k a0 l1 true) else (marquetryref01_Pack.j0 k a0 l1 (decide (a0 > 64)))
theorem marquetryref01_Pack.mono_l : ∀ k, (∀ y0 y1 y2, LeO (marquetryref01_Pack.j0 k y0 y1 y2) (marquetryref01_Pack.j0 (k + 1) y0 y1 y2)) ∧ (∀ y0 y1 y2, LeO (marquetryref01_Pack.l0 k y0 y1 y2) (marquetryref01_Pack.l0 (k + 1) y0 y1 y2)) ∧ (∀ y0 y1 y2 y3, LeO (marquetryref01_Pack.l1 k y0 y1 y2 y3) (marquetryref01_Pack.l1 (k + 1) y0 y1 y2 y3)) ∧ (∀ y0 y1 y2 y3 y4 y5, LeO (marquetryref01_Pack.l2 k y0 y1 y2 y3 y4 y5) (marquetryref01_Pack.l2 (k + 1) y0 y1 y2 y3 y4 y5))
 | 0 => ⟨fun _ _ _ r h => by simp [marquetryref01_Pack.j0] at h, fun _ _ _ r h => by simp [marquetryref01_Pack.l0] at h, fun _ _ _ _ r h => by simp [marquetryref01_Pack.l1] at h, fun _ _ _ _ _ _ r h => by simp [marquetryref01_Pack.l2] at h⟩
 | k + 1 => by
  obtain ⟨ih0, ih1, ih2, ih3⟩ := marquetryref01_Pack.mono_l k
  refine ⟨?_, ?_, ?_, ?_⟩
  ·intro y0 y1 y2
   unfold marquetryref01_Pack.j0
   repeat' first
   | (with_reducible exact ih0 _ _ _)
   | (with_reducible exact ih1 _ _ _)
   | (with_reducible exact ih2 _ _ _ _)
   | (with_reducible exact ih3 _ _ _ _ _ _)
   | (with_reducible exact marquetryref01_Size.mono _ _ _)
   | (with_reducible exact marquetryref01_Width.mono _ _)
   | (with_reducible exact marquetryref01_powers.mono _ _)
   | (with_reducible exact LeO.refl _)
   | (with_reducible exact LeO.none _)
   | (with_reducible refine LeO.ite ?_ ?_)
   | (with_reducible refine LeO.bind ?_ (fun _ => ?_))
   | exact ih0 _ _ _
   | exact ih1 _ _ _
   | exact ih2 _ _ _ _
   | exact ih3 _ _ _ _ _ _
   | exact marquetryref01_Size.mono _ _ _
   | exact marquetryref01_Width.mono _ _
   | exact marquetryref01_powers.mono _ _
   | exact LeO.none _
   | refine LeO.ite ?_ ?_
   | refine LeO.bind ?_ (fun _ => ?_)
  ·intro y0 y1 y2
   unfold marquetryref01_Pack.l0
   repeat' first
   | (with_reducible exact ih0 _ _ _)
   | (with_reducible exact ih1 _ _ _)
   | (with_reducible exact ih2 _ _ _ _)
   | (with_reducible exact ih3 _ _ _ _ _ _)
   | (with_reducible exact marquetryref01_Size.mono _ _ _)
   | (with_reducible exact marquetryref01_Width.mono _ _)
   | (with_reducible exact marquetryref01_powers.mono _ _)
   | (with_reducible exact LeO.refl _)
   | (with_reducible exact LeO.none _)
   | (with_reducible refine LeO.ite ?_ ?_)
   | (with_reducible refine LeO.bind ?_ (fun _ => ?_))
   | exact ih0 _ _ _
   | exact ih1 _ _ _
   | exact ih2 _ _ _ _
   | exact ih3 _ _ _ _ _ _
   | exact marquetryref01_Size.mono _ _ _
   | exact marquetryref01_Width.mono _ _
   | exact marquetryref01_powers.mono _ _
   | exact LeO.none _
   | refine LeO.ite ?_ ?_
   | refine LeO.bind ?_ (fun _ => ?_)
  ·intro y0 y1 y2 y3
   unfold marquetryref01_Pack.l1
   repeat' first
   | (with_reducible exact ih0 _ _ _)
   | (with_reducible exact ih1 _ _ _)
   | (with_reducible exact ih2 _ _ _ _)
   | (with_reducible exact ih3 _ _ _ _ _ _)
   | (with_reducible exact marquetryref01_Size.mono _ _ _)
   | (with_reducible exact marquetryref01_Width.mono _ _)
   | (with_reducible exact marquetryref01_powers.mono _ _)
   | (with_reducible exact LeO.refl _)
   | (with_reducible exact LeO.none _)
   | (with_reducible refine LeO.ite ?_ ?_)
   | (with_reducible refine LeO.bind ?_ (fun _ => ?_))
   | exact ih0 _ _ _
   | exact ih1 _ _ _
   | exact ih2 _ _ _ _
   | exact ih3 _ _ _ _ _ _
   | exact marquetryref01_Size.mono _ _ _
   | exact marquetryref01_Width.mono _ _
   | exact marquetryref01_powers.mono _ _
   | exact LeO.none _
   | refine LeO.ite ?_ ?_
   | refine LeO.bind ?_ (fun _ => ?_)
  ·intro y0 y1 y2 y3 y4 y5
   unfold marquetryref01_Pack.l2
   repeat' first
   | (with_reducible exact ih0 _ _ _)
   | (with_reducible exact ih1 _ _ _)
   | (with_reducible exact ih2 _ _ _ _)
   | (with_reducible exact ih3 _ _ _ _ _ _)
   | (with_reducible exact marquetryref01_Size.mono _ _ _)
   | (with_reducible exact marquetryref01_Width.mono _ _)
   | (with_reducible exact marquetryref01_powers.mono _ _)
   | (with_reducible exact LeO.refl _)
   | (with_reducible exact LeO.none _)
   | (with_reducible refine LeO.ite ?_ ?_)
   | (with_reducible refine LeO.bind ?_ (fun _ => ?_))
   | exact ih0 _ _ _
   | exact ih1 _ _ _
   | exact ih2 _ _ _ _
   | exact ih3 _ _ _ _ _ _
   | exact marquetryref01_Size.mono _ _ _
   | exact marquetryref01_Width.mono _ _
   | exact marquetryref01_powers.mono _ _
   | exact LeO.none _
   | refine LeO.ite ?_ ?_
   | refine LeO.bind ?_ (fun _ => ?_)
theorem marquetryref01_Pack.mono : ∀ a0 a1 k, LeO (marquetryref01_Pack.f k a0 a1) (marquetryref01_Pack.f (k + 1) a0 a1) := by
 intro a0 a1 k
 obtain ⟨ih0, ih1, ih2, ih3⟩ := marquetryref01_Pack.mono_l k
 unfold marquetryref01_Pack.f
 repeat' first
   | (with_reducible exact ih0 _ _ _)
   | (with_reducible exact ih1 _ _ _)
   | (with_reducible exact ih2 _ _ _ _)
   | (with_reducible exact ih3 _ _ _ _ _ _)
   | (with_reducible exact marquetryref01_Size.mono _ _ _)
   | (with_reducible exact marquetryref01_Width.mono _ _)
   | (with_reducible exact marquetryref01_powers.mono _ _)
   | (with_reducible exact LeO.refl _)
   | (with_reducible exact LeO.none _)
   | (with_reducible refine LeO.ite ?_ ?_)
   | (with_reducible refine LeO.bind ?_ (fun _ => ?_))
   | exact ih0 _ _ _
   | exact ih1 _ _ _
   | exact ih2 _ _ _ _
   | exact ih3 _ _ _ _ _ _
   | exact marquetryref01_Size.mono _ _ _
   | exact marquetryref01_Width.mono _ _
   | exact marquetryref01_powers.mono _ _
   | exact LeO.none _
   | refine LeO.ite ?_ ?_
   | refine LeO.bind ?_ (fun _ => ?_)
def marquetryref01_Pack.T20 : Bool × List (List Nat × List Nat) := (true, [([], []), ([], []), ([], []), ([1, 2], [1, 2]), ([], []), ([3, 4], [3, 4]), ([5], [5]), ([0, 6], [0, 6]), ([7], [7]), ([], []), ([], []), ([9, 10], [9, 10]), ([], []), ([11, 12], [11, 12]), ([13], [13]), ([14], [14]), ([8, 15], [8, 15]), ([0, 6, 0, 1, 2, 3, 4, 5, 6, 7, 8, 9, 10, 11, 12, 13, 14, 15, 16], [0, 6]), ([17, 16, 15, 0, 1, 2, 3, 4, 5, 6, 7, 8, 9, 10, 11, 12, 13, 14, 15, 16], [16, 17])])
def marquetryref01_Pack.B20 : List Nat := [0, 0, 0, 6, 0, 30, 62, 127, 255, 0, 0, 1536, 0, 7680, 15872, 32256, 65535, 131071, 262143]
theorem marquetryref01_Pack.tab20 : rtab .any (opsOf Try.f60 20) = marquetryref01_Pack.T20 := by kernel_rfl
theorem marquetryref01_Pack.bits20 : waitsOk marquetryref01_Pack.T20.2 marquetryref01_Pack.B20 = true := by kernel_rfl
set_option maxHeartbeats 8000000 in
set_option maxRecDepth 100000 in
theorem marquetryref01_Pack.calls (k : Nat) (a0 : Int) (A1 : Option Addr) (c1 : Nat) (l1 : List Int) (r1 : List Int) (r2 : Int) (w : World) (hr1 : Kd.C (Kd.int .u64) w A1 l1.length l1) (hc1 : l1.length ≤ c1) (h : marquetryref01_Pack.f k a0 l1 = some (r1, r2)) :
  Calls Try.prog 60 #[.int .i64 a0, .slice A1 l1.length c1] w fun e w' => ∃ v0_ : Value, e = .returned (.tuple #[v0_, .int .i64 r2]) ∧ Kd.R (Kd.int .u8) 5 w' w.heap.size (fun _ => True) v0_ r1 ∧ Below w.heap.size w w' := by
 have HR1 := Aside0.mk hr1
 have HC1 := Aside0.mk hc1
 clear hr1 hc1
 have HB := Aside0.mk (Below.refl w.heap.size w)
 have H : (if a0 < 0 then (marquetryref01_Pack.j0 k a0 l1 true) else (marquetryref01_Pack.j0 k a0 l1 (decide (a0 > 64)))) = some (r1, r2) := h
 clear h
 have HC3 := Aside0.mk H
 clear H
 go_enter Try.func60, Try.ntmps60
 go_upto_region 1 with (fail)
 go_cut [18] (fun v18 wc => ∃ (kq : Nat) (x18_2 : Bool), v18 = .bool x18_2 ∧ Aside0 (marquetryref01_Pack.j0 kq a0 l1 x18_2 = some (r1, r2)) ∧ Aside0 (kq ≤ k) ∧ Aside0 (Below w.heap.size w wc))
 case first =>
  have H := HC3.out
  clear HC3
  by_cases c4 : a0 < 0
  ·rw [if_pos c4] at H
   have c4b0 : decide (a0 < 0) = true := decide_eq_true c4
   clear c4
   (first | rw [c4b0] | (simp only [i64_w, i32_w]; rw [c4b0]) | skip)
   have H' := Aside0.mk H
   clear H
   go_wp2
   go_meet
   case rel => exact ⟨_, (true), (by first | rfl | (simp; done) | (simp [*]; done)), H', ⟨by first | omega | exact Nat.le_refl _⟩, ⟨by repeat (first | (with_reducible first | exact HB.out | apply below_alloc | apply pw_below_drewN | apply below_drew1) | exact HB.out)⟩⟩
  ·rw [if_neg c4] at H
   have c4b0 : decide (a0 < 0) = false := decide_eq_false c4
   clear c4
   (first | rw [c4b0] | (simp only [i64_w, i32_w]; rw [c4b0]) | skip)
   have H' := Aside0.mk H
   clear H
   go_wp2
   go_meet
   case rel => exact ⟨_, (decide (a0 > 64)), (by first | rfl | (simp; done) | (simp [*]; done)), H', ⟨by first | omega | exact Nat.le_refl _⟩, ⟨by repeat (first | (with_reducible first | exact HB.out | apply below_alloc | apply pw_below_drewN | apply below_drew1) | exact HB.out)⟩⟩
 case rest =>
  clear HC3
  try clear c1
  try clear p2
  try clear c4
  try clear c4b0
  obtain ⟨kq, x18_2, rfl, HA, HJ2, HB⟩ := hcut
  cases kq with
  | zero => exact absurd HA.out (by simp [marquetryref01_Pack.j0])
  | succ kj2 =>
   have H := HA.out
   clear HA
   simp only [marquetryref01_Pack.j0] at H
   by_cases c5 : x18_2 = true
   ·subst c5
    have H1 : (some (([] : List Int), 2)) = some (r1, r2) := by rw [if_pos rfl] at H; exact H
    clear H
    have H := H1
    clear H1
    simp only [Option.some.injEq, Prod.mk.injEq] at H
    obtain ⟨rfl, rfl⟩ := H
    go_wp2
    go_ret2
    exact ⟨_, by first | rfl | (simp [errW_none, errW_some] <;> rfl) | (simp [*, errW_none, errW_some] <;> rfl), by first | exact Kd.R_nil _ _ _ _ _ | exact Kd.N_nil _ _ _ _ _ | exact Kd.V_nil _ _ _ _ _ | exact Kd.Q_nil _ _ _ _ _ | exact Kd.S_nil _ _ _ _ _, by repeat (first | (with_reducible first | exact HB.out | apply below_alloc | apply pw_below_drewN | apply below_drew1) | exact HB.out)⟩
   ·replace c5 := Bool.eq_false_iff.mpr c5
    subst c5
    have H1 : (marquetryref01_Pack.l0 kj2 a0 l1 0) = some (r1, r2) := by rw [if_neg (show ¬ (false = true) by decide)] at H; exact H
    clear H
    have H := H1
    clear H1
    have H' := Aside0.mk H
    clear H
    go_wp2
    go_loopg [6] kj2 (fun kq v6 w' => ∃ (x6_2 : Int), v6 = .int .i64 x6_2 ∧ Aside0 (marquetryref01_Pack.l0 kq a0 l1 x6_2 = some (r1, r2)) ∧ Aside0 (kq ≤ kj2) ∧ Aside0 (Below w.heap.size w w'))
    case atStart => exact ⟨(0), (by first | rfl | (simp; done) | (simp [*]; done)), H', ⟨Nat.le_refl _⟩, ⟨by repeat (first | (with_reducible first | exact HB.out | apply below_alloc | apply pw_below_drewN | apply below_drew1) | exact HB.out)⟩⟩
    case round =>
     clear H'
     try clear c1
     try clear p2
     try clear c4
     try clear c4b0
     try clear c5
     try clear p2
     obtain ⟨x6_2, rfl, HA, HK2, HB⟩ := hrel
     cases gk with
     | zero => exact absurd HA.out (by simp [marquetryref01_Pack.l0])
     | succ k2 =>
      have H := HA.out
      clear HA
      simp only [marquetryref01_Pack.l0] at H
      by_cases c6 : x6_2 < (l1.length : Int)
      ·rw [if_pos c6] at H
       have c6b0 : decide (x6_2 < (l1.length : Int)) = true := decide_eq_true c6
       clear c6
       by_cases c7 : 0 ≤ x6_2
       ·rw [if_pos c7] at H
        have c7b0 : decide (0 ≤ x6_2) = true := decide_eq_true c7
        clear c7
        replace H := Option.bind_eq_some_iff.mp H
        obtain ⟨t195, A80, H⟩ := H
        replace H : (if t195 > a0 then (some (([] : List Int), 2)) else (marquetryref01_Pack.l0 k2 a0 l1 (wrap64 (x6_2 + 1)))) = some (r1, r2) := H
        have A8 := Aside0.mk A80
        clear A80
        by_cases c9 : t195 > a0
        ·rw [if_pos c9] at H
         have c9b0 : decide (a0 < t195) = true := decide_eq_true c9
         clear c9
         simp only [Option.some.injEq, Prod.mk.injEq] at H
         obtain ⟨rfl, rfl⟩ := H
         have p194 : 0 ≤ (x6_2 : Int) := of_decide_eq_true (by first | (with_reducible assumption) | assumption)
         have q194 : x6_2 < (l1.length : Int) := of_decide_eq_true (by first | (with_reducible assumption) | assumption)
         obtain ⟨ad194, e194, hx194_0⟩ := Kd.at_int HR1.out x6_2 p194 q194
         cases e194
         replace hx194_0 := (HB.out.cell (World.block_lt_of_cell? w _ hx194_0)).trans hx194_0
         replace p194 := eq_true p194
         replace q194 := eq_true q194
         go_wp2_with (first | ((with_reducible refine gate_callee (f := 42) rfl ?_); refine goesL_ (some 29) rfl rfl Try.func42 (by kernel_rfl) rfl #[.int .u64 (rd l1 x6_2)] rfl (by (try simp only [List.map_toArray, List.map_cons, List.map_nil]); first | done | rfl | (simp only [List.length_drop, List.length_take]; rfl)) ?_; (with_reducible refine (marquetryref01_Width.calls k2 (rd l1 x6_2) t195 _ A8.out).mono ?_); rintro e w' ⟨rfl, ⟨nd, rfl⟩⟩; refine ⟨_, rfl, ?_⟩))
         go_ret2
         exact ⟨_, by first | rfl | (simp [errW_none, errW_some] <;> rfl) | (simp [*, errW_none, errW_some] <;> rfl), by first | exact Kd.R_nil _ _ _ _ _ | exact Kd.N_nil _ _ _ _ _ | exact Kd.V_nil _ _ _ _ _ | exact Kd.Q_nil _ _ _ _ _ | exact Kd.S_nil _ _ _ _ _, by repeat (first | (with_reducible first | exact HB.out | apply below_alloc | apply pw_below_drewN | apply below_drew1) | exact HB.out)⟩
        ·rw [if_neg c9] at H
         have c9b0 : decide (a0 < t195) = false := decide_eq_false c9
         clear c9
         have H' := Aside0.mk H
         clear H
         have p194 : 0 ≤ (x6_2 : Int) := of_decide_eq_true (by first | (with_reducible assumption) | assumption)
         have q194 : x6_2 < (l1.length : Int) := of_decide_eq_true (by first | (with_reducible assumption) | assumption)
         obtain ⟨ad194, e194, hx194_0⟩ := Kd.at_int HR1.out x6_2 p194 q194
         cases e194
         replace hx194_0 := (HB.out.cell (World.block_lt_of_cell? w _ hx194_0)).trans hx194_0
         replace p194 := eq_true p194
         replace q194 := eq_true q194
         go_wp2_with (first | ((with_reducible refine gate_callee (f := 42) rfl ?_); refine goesL_ (some 29) rfl rfl Try.func42 (by kernel_rfl) rfl #[.int .u64 (rd l1 x6_2)] rfl (by (try simp only [List.map_toArray, List.map_cons, List.map_nil]); first | done | rfl | (simp only [List.length_drop, List.length_take]; rfl)) ?_; (with_reducible refine (marquetryref01_Width.calls k2 (rd l1 x6_2) t195 _ A8.out).mono ?_); rintro e w' ⟨rfl, ⟨nd, rfl⟩⟩; refine ⟨_, rfl, ?_⟩))
         go_roundg k2
         case measure => have := HJ2.out; have := HK2.out; omega
         case rel => exact ⟨(wrap64 (x6_2 + 1)), (by first | rfl | (simp; done) | (simp [*]; done)), H', ⟨by have := HJ2.out; have := HK2.out; omega⟩, ⟨by repeat (first | (with_reducible first | exact HB.out | apply below_alloc | apply pw_below_drewN | apply below_drew1) | exact HB.out)⟩⟩
       ·rw [if_neg c7] at H
        exact absurd H (by simp)
      ·rw [if_neg c6] at H
       have c6b0 : decide (x6_2 < (l1.length : Int)) = false := decide_eq_false c6
       clear c6
       replace H := Option.bind_eq_some_iff.mp H
       obtain ⟨⟨t196, t197⟩, A100, H⟩ := H
       replace H : (if t197 = 0 then (if 0 ≤ t196 then (if (t196 : Int).toNat ≤ 281474976710656 then (marquetryref01_Pack.l1 k2 a0 l1 (List.replicate (t196 : Int).toNat 0) 0) else (none)) else (none)) else (some (([] : List Int), t197))) = some (r1, r2) := H
       have A10 := Aside0.mk A100
       clear A100
       by_cases c11 : t197 = 0
       ·rw [if_pos c11] at H
        have c11b0 : (t197 == 0) = true := beq_iff_eq.mpr c11
        have c11b1 : (t197 != 0) = false := bne_eq_false_iff_eq.mpr c11
        clear c11
        by_cases c12 : 0 ≤ t196
        ·rw [if_pos c12] at H
         have c12b0 := eq_true c12
         have c12b1 : decide (0 ≤ t196) = true := decide_eq_true c12
         clear c12
         by_cases c13 : (t196 : Int).toNat ≤ 281474976710656
         ·rw [if_pos c13] at H
          have c13b0 := eq_true c13
          have c13b1 : decide ((t196 : Int).toNat ≤ 281474976710656) = true := decide_eq_true c13
          clear c13
          obtain ⟨y198, hy198⟩ : ∃ y_ : List Int, y_ = (List.replicate (t196 : Int).toNat 0) := ⟨_, rfl⟩
          replace H : (marquetryref01_Pack.l1 k2 a0 l1 y198 0) = some (r1, r2) := by first | (rw [hy198]; with_reducible exact H) | (have H2_ := (Option.bind_some _ _).symm.trans H; rw [hy198]; with_reducible exact H2_) | (have H2_ := (Option.bind_some _ _).symm.trans H; with_reducible exact H2_) | with_reducible exact H | (rw [hy198]; exact H) | exact H
          have Ny198 := Aside0.mk hy198
          clear hy198
          have H' := Aside0.mk H
          clear H
          go_wp2_with (first | ((with_reducible refine gate_callee (f := 70) rfl ?_); refine goesL_ (some 36) rfl rfl Try.func70 (by kernel_rfl) rfl #[.int .i64 a0, .int .i64 (l1.length : Int)] rfl (by (try simp only [List.map_toArray, List.map_cons, List.map_nil]); first | done | rfl | (simp only [List.length_drop, List.length_take]; rfl)) ?_; (with_reducible refine (marquetryref01_Size.calls k2 a0 (l1.length : Int) t196 t197 _ A10.out).mono ?_); rintro e w' ⟨rfl, ⟨nd, rfl⟩⟩; refine ⟨_, rfl, ?_⟩) | ((with_reducible refine gate_dst (N := 43) rfl ?_); refine Kd.R_make (Kd.int .u8) _ 5 rfl (N := 43) rfl 37 _ _ rfl t196 rfl rfl Try.underlying37 (.int .u8 0) 1 info5 rfl (by decide) (by omega) 0 (ok := fun _ => True) (okp := fun _ => True) rfl (fun _ hk => hk) trivial (of_decide_eq_true (by first | (with_reducible assumption) | assumption)) (Nat.le_trans (Nat.mul_le_mul_right _ (of_decide_eq_true (by first | (with_reducible assumption) | assumption) : t196.toNat ≤ 281474976710656)) (by omega)) (Below.refl _ _) (Nat.le_refl _) ?_; intro v199 w14 ho15 hb hg_ hnew_; clear hg_ hnew_; (first | rw [← Ny198.out] at ho15 | (simp only [Int.reduceToNat] at ho15; rw [← Ny198.out] at ho15)); have n0_ := Aside0.mk (Kd.R_lower ho15 (below_size (by repeat (first | (with_reducible first | exact HB.out | apply below_alloc | apply pw_below_drewN | apply below_drew1) | exact HB.out)))); have n1_ := Aside0.mk (below_step (by repeat (first | (with_reducible first | exact HB.out | apply below_alloc | apply pw_below_drewN | apply below_drew1) | exact HB.out)) hb); clear HB; have HO200 := n0_; have HB := n1_; clear n0_ n1_; clear hb ho15))
          go_loopg [10] k2 (fun kq v10 w' => ∃ (x9_3 : List Int) (x10_3 : Int), v10 = .int .i64 x10_3 ∧ Aside0 (marquetryref01_Pack.l1 kq a0 l1 x9_3 x10_3 = some (r1, r2)) ∧ Aside0 (kq ≤ k2) ∧ Aside0 (Kd.R (Kd.int .u8) 5 w' w.heap.size (fun _ => True) v199 x9_3) ∧ Aside0 (Below w.heap.size w w'))
          case atStart => exact ⟨(y198), (0), (by first | rfl | (simp; done) | (simp [*]; done)), H', ⟨Nat.le_refl _⟩, ⟨by (with_reducible repeat (first | apply Kd.R_alloc | apply Kd.R_drewN | apply Kd.R_drew)); exact HO200.out⟩, ⟨by repeat (first | (with_reducible first | exact HB.out | apply below_alloc | apply pw_below_drewN | apply below_drew1) | exact HB.out)⟩⟩
          case round =>
           clear H'
           try clear c1
           try clear p1
           try clear q1
           try clear hx1
           try clear p2
           try clear c4
           try clear c4b0
           try clear c5
           try clear c6
           try clear c6b0
           try clear p6
           try clear c7
           try clear c7b0
           try clear c9
           try clear c9b0
           try clear c11
           try clear c11b0
           try clear c11b1
           try clear c12
           try clear c12b0
           try clear c12b1
           try clear c13
           try clear c13b0
           try clear c13b1
           try clear hx194_0
           try clear p194
           try clear p2
           try clear q194
           obtain ⟨x9_3, x10_3, rfl, HA, HK3, HO_9, HB⟩ := hrel
           cases gk with
           | zero => exact absurd HA.out (by simp [marquetryref01_Pack.l1])
           | succ k3 =>
            have H := HA.out
            clear HA
            simp only [marquetryref01_Pack.l1] at H
            by_cases c16 : x10_3 < (l1.length : Int)
            ·rw [if_pos c16] at H
             have c16b0 : decide (x10_3 < (l1.length : Int)) = true := decide_eq_true c16
             clear c16
             by_cases c17 : 0 ≤ x10_3
             ·rw [if_pos c17] at H
              have c17b0 : decide (0 ≤ x10_3) = true := decide_eq_true c17
              clear c17
              have H' := Aside0.mk H
              clear H
              have p201 : 0 ≤ (x10_3 : Int) := of_decide_eq_true (by first | (with_reducible assumption) | assumption)
              have q201 : x10_3 < (l1.length : Int) := of_decide_eq_true (by first | (with_reducible assumption) | assumption)
              obtain ⟨ad201, e201, hx201_0⟩ := Kd.at_int HR1.out x10_3 p201 q201
              cases e201
              replace hx201_0 := (HB.out.cell (World.block_lt_of_cell? w _ hx201_0)).trans hx201_0
              replace p201 := eq_true p201
              replace q201 := eq_true q201
              go_wp2
              go_loopg [11, 12] k3 (fun kq v11 v12 w' => ∃ (x9_4 : List Int) (x11_4 : Int) (x12_4 : Int), v11 = .int .u64 x11_4 ∧ v12 = .int .i64 x12_4 ∧ Aside0 (marquetryref01_Pack.l2 kq a0 l1 x9_4 x10_3 x11_4 x12_4 = some (r1, r2)) ∧ Aside0 (kq ≤ k3) ∧ Aside0 (Kd.R (Kd.int .u8) 5 w' w.heap.size (fun _ => True) v199 x9_4) ∧ Aside0 (Below w.heap.size w w'))
              case atStart => exact ⟨(x9_3), (rd l1 x10_3), (0), (by first | rfl | (simp; done) | (simp [*]; done)), (by first | rfl | (simp; done) | (simp [*]; done)), H', ⟨Nat.le_refl _⟩, ⟨by (with_reducible repeat (first | apply Kd.R_alloc | apply Kd.R_drewN | apply Kd.R_drew)); exact HO_9.out⟩, ⟨by repeat (first | (with_reducible first | exact HB.out | apply below_alloc | apply pw_below_drewN | apply below_drew1) | exact HB.out)⟩⟩
              case round =>
               clear H'
               try clear c1
               try clear p1
               try clear q1
               try clear hx1
               try clear p2
               try clear q2
               try clear hx2
               try clear c4
               try clear c4b0
               try clear c5
               try clear c6
               try clear c6b0
               try clear p6
               try clear c7
               try clear c7b0
               try clear c9
               try clear c9b0
               try clear c11
               try clear c11b0
               try clear c11b1
               try clear c12
               try clear c12b0
               try clear c12b1
               try clear c13
               try clear c13b0
               try clear c13b1
               try clear c16
               try clear c16b0
               try clear c17
               try clear c17b0
               try clear hx194_0
               try clear hx201_0
               try clear p1
               try clear p194
               try clear p2
               try clear p201
               try clear p6
               try clear q1
               try clear q194
               try clear q201
               obtain ⟨x9_4, x11_4, x12_4, rfl, rfl, HA, HK4, HO_9, HB⟩ := hrel
               cases gk with
               | zero => exact absurd HA.out (by simp [marquetryref01_Pack.l2])
               | succ k4 =>
                have H := HA.out
                clear HA
                simp only [marquetryref01_Pack.l2] at H
                by_cases c18 : x12_4 < a0
                ·rw [if_pos c18] at H
                 have c18b0 : decide (x12_4 < a0) = true := decide_eq_true c18
                 clear c18
                 by_cases c19 : (Int.tmod x11_4 2) = 1
                 ·rw [if_pos c19] at H
                  have c19b0 : ((Int.tmod x11_4 2) == 1) = true := beq_iff_eq.mpr c19
                  have c19b1 : ((Int.tmod x11_4 2) != 1) = false := bne_eq_false_iff_eq.mpr c19
                  clear c19
                  obtain ⟨ji20, hji20⟩ : ∃ j_ : Int, (wrap64 (Int.tdiv (wrap64 ((wrap64 (x10_3 * a0)) + x12_4)) 8)) = j_ := ⟨_, rfl⟩
                  replace H : (if 0 ≤ (ji20) then (if (ji20) < (x9_4.length : Int) then ((marquetryref01_powers.f k4 (Int.tmod (wrap64 ((wrap64 (x10_3 * a0)) + x12_4)) 8)).bind fun t203 => (marquetryref01_Pack.l2 k4 a0 l1 (x9_4.set ((ji20) : Int).toNat (((rd x9_4 (ji20)) + t203) % 256)) x10_3 (IntKind.u64.wrap (Int.tdiv x11_4 2)) (wrap64 (x12_4 + 1)))) else (none)) else (none)) = some (r1, r2) := by first | (rw [hji20] at H; exact H) | (simp only [hji20] at H ⊢; exact H)
                  have hji20w : (IntKind.i64.wrap (Int.tdiv (wrap64 ((wrap64 (x10_3 * a0)) + x12_4)) 8)) = ji20 := (i64_w _).trans hji20
                  by_cases c21 : 0 ≤ (ji20)
                  ·rw [if_pos c21] at H
                   have c21b0 : decide (0 ≤ (ji20)) = true := decide_eq_true c21
                   clear c21
                   by_cases c22 : (ji20) < (x9_4.length : Int)
                   ·rw [if_pos c22] at H
                    have c22b0 : decide ((ji20) < (x9_4.length : Int)) = true := decide_eq_true c22
                    clear c22
                    replace H := Option.bind_eq_some_iff.mp H
                    obtain ⟨t203, A230, H⟩ := H
                    replace H : (marquetryref01_Pack.l2 k4 a0 l1 (x9_4.set ((ji20) : Int).toNat (((rd x9_4 (ji20)) + t203) % 256)) x10_3 (IntKind.u64.wrap (Int.tdiv x11_4 2)) (wrap64 (x12_4 + 1))) = some (r1, r2) := H
                    have A23 := Aside0.mk A230
                    clear A230
                    obtain ⟨y204, hy204⟩ : ∃ y_ : List Int, y_ = (x9_4.set ((ji20) : Int).toNat (((rd x9_4 (ji20)) + t203) % 256)) := ⟨_, rfl⟩
                    replace H : (marquetryref01_Pack.l2 k4 a0 l1 y204 x10_3 (IntKind.u64.wrap (Int.tdiv x11_4 2)) (wrap64 (x12_4 + 1))) = some (r1, r2) := by first | (rw [hy204]; with_reducible exact H) | (have H2_ := (Option.bind_some _ _).symm.trans H; rw [hy204]; with_reducible exact H2_) | (have H2_ := (Option.bind_some _ _).symm.trans H; with_reducible exact H2_) | with_reducible exact H | (rw [hy204]; exact H) | exact H
                    have Ny204 := Aside0.mk hy204
                    clear hy204
                    have H' := Aside0.mk H
                    clear H
                    try go_wp2
                    have n0_ := Aside0.mk (Kd.R_drew HO_9.out)
                    have n1_ := Aside0.mk (below_drew1 HB.out)
                    clear HO_9
                    clear HB
                    have HO_9 := n0_
                    have HB := n1_
                    clear n0_ n1_
                    obtain ⟨Ao26, co26, eo26⟩ := Kd.R_slice HO_9.out
                    (first | subst eo26 | (injection eo26 with f1_ f2_ f3_; have f4_ := f1_.symm; have f5_ := f3_.symm; clear f1_ f2_ f3_; subst f4_; subst f5_))
                    have p202 : 0 ≤ ((ji20) : Int) := of_decide_eq_true (by first | (with_reducible assumption) | assumption)
                    have q202 : (ji20) < (x9_4.length : Int) := of_decide_eq_true (by first | (with_reducible assumption) | assumption)
                    obtain ⟨ad202, e202, hx202_0⟩ := Kd.at_int (Kd.R_reads' HO_9.out).2.2 (ji20) p202 q202
                    cases e202
                    replace p202 := eq_true p202
                    replace q202 := eq_true q202
                    refine start_ (n := 19) (S := fun w' => w'.cell? (ad202.add ((ji20)).toNat) = some (.int .u8 (rd x9_4 (ji20)))) (ds := [18]) #[false, false, false, false, false, false, false, false, false, false, false, false, false, false, false, false, false, false, false] (by kernel_rfl) rfl rfl (hx202_0) (fun hHeld => ?_); refine with_tabW marquetryref01_Pack.tab20 marquetryref01_Pack.bits20 (fun HT_ HW_ => ?_)
                    generalize wr.drew = w25 at HO_9 HB hx202_0 hHeld ⊢
                    refine pure_ (i := 0) (N := some 62) (v := ?_) (a' := ?_) #[true, false, false, false, false, false, false, false, false, false, false, false, false, false, false, false, false, false, false] rfl rfl (any_of HT_.out (by kernel_rfl)) (fun _ _ _ h => h) (Or.inl ⟨by rfl, ?_⟩) ?_ ?_
                    rotate_left
                    ·intro w'
                     go_simp
                     with_reducible rfl
                    rotate_left
                    ·simp only [Act.put, List.setIfInBounds_toArray, List.set_cons_zero, List.set_cons_succ, i64_w, i32_w]
                     rfl
                    refine pure_ (i := 1) (N := some 63) (v := ?_) (a' := ?_) #[true, true, false, false, false, false, false, false, false, false, false, false, false, false, false, false, false, false, false] rfl rfl (any_of HT_.out (by kernel_rfl)) (fun _ _ _ h => h) (Or.inl ⟨by rfl, ?_⟩) ?_ ?_
                    rotate_left
                    ·intro w'
                     go_simp
                     with_reducible rfl
                    rotate_left
                    ·simp only [Act.put, List.setIfInBounds_toArray, List.set_cons_zero, List.set_cons_succ, i64_w, i32_w]
                     rfl
                    refine pure_ (i := 2) (N := some 64) (v := ?_) (a' := ?_) #[true, true, true, false, false, false, false, false, false, false, false, false, false, false, false, false, false, false, false] rfl rfl (any_of HT_.out (by kernel_rfl)) (fun _ _ _ h => h) (Or.inl ⟨by rfl, ?_⟩) ?_ ?_
                    rotate_left
                    ·intro w'
                     go_simp
                     with_reducible rfl
                    rotate_left
                    ·simp only [Act.put, List.setIfInBounds_toArray, List.set_cons_zero, List.set_cons_succ, i64_w, i32_w]
                     rfl
                    refine pure_ (i := 3) (N := some 65) (v := ?_) (a' := ?_) #[true, true, true, true, false, false, false, false, false, false, false, false, false, false, false, false, false, false, false] rfl rfl (any_of HT_.out (by kernel_rfl)) (fun _ _ _ h => h) (Or.inl ⟨by rfl, ?_⟩) ?_ ?_
                    rotate_left
                    ·intro w'
                     go_simp
                     with_reducible rfl
                    rotate_left
                    ·simp only [Act.put, List.setIfInBounds_toArray, List.set_cons_zero, List.set_cons_succ, i64_w, i32_w]
                     rfl
                    refine pure_ (i := 4) (N := some 66) (v := ?_) (a' := ?_) #[true, true, true, true, true, false, false, false, false, false, false, false, false, false, false, false, false, false, false] rfl rfl (any_of HT_.out (by kernel_rfl)) (fun _ _ _ h => h) (Or.inl ⟨by rfl, ?_⟩) ?_ ?_
                    rotate_left
                    ·intro w'
                     go_simp
                     with_reducible rfl
                    rotate_left
                    ·simp only [Act.put, List.setIfInBounds_toArray, List.set_cons_zero, List.set_cons_succ, i64_w, i32_w]
                     rfl
                    refine pure_ (i := 5) (N := some 67) (v := ?_) (a' := ?_) #[true, true, true, true, true, true, false, false, false, false, false, false, false, false, false, false, false, false, false] rfl rfl (any_of HT_.out (by kernel_rfl)) (fun _ _ _ h => h) (Or.inl ⟨by rfl, ?_⟩) ?_ ?_
                    rotate_left
                    ·intro w'
                     go_simp
                     with_reducible rfl
                    rotate_left
                    ·simp only [Act.put, List.setIfInBounds_toArray, List.set_cons_zero, List.set_cons_succ, i64_w, i32_w]
                     rfl
                    refine pure_ (i := 6) (N := some 68) (v := ?_) (a' := ?_) #[true, true, true, true, true, true, true, false, false, false, false, false, false, false, false, false, false, false, false] rfl rfl (any_of HT_.out (by kernel_rfl)) (fun _ _ _ h => h) (Or.inl ⟨by rfl, ?_⟩) ?_ ?_
                    rotate_left
                    ·intro w'
                     go_simp
                     with_reducible rfl
                    rotate_left
                    ·simp only [Act.put, List.setIfInBounds_toArray, List.set_cons_zero, List.set_cons_succ, i64_w, i32_w]
                     rfl
                    refine pure_ (i := 7) (N := some 69) (v := ?_) (a' := ?_) #[true, true, true, true, true, true, true, true, false, false, false, false, false, false, false, false, false, false, false] rfl rfl (any_of HT_.out (by kernel_rfl)) (fun _ _ _ h => h) (Or.inl ⟨by rfl, ?_⟩) ?_ ?_
                    rotate_left
                    ·intro w'
                     go_simp
                     with_reducible rfl
                    rotate_left
                    ·simp only [Act.put, List.setIfInBounds_toArray, List.set_cons_zero, List.set_cons_succ, i64_w, i32_w]
                     rfl
                    refine pure_ (i := 9) (N := some 71) (v := ?_) (a' := ?_) #[true, true, true, true, true, true, true, true, false, true, false, false, false, false, false, false, false, false, false] rfl rfl (any_of HT_.out (by kernel_rfl)) (fun _ _ _ h => h) (Or.inl ⟨by rfl, ?_⟩) ?_ ?_
                    rotate_left
                    ·intro w'
                     go_simp
                     with_reducible rfl
                    rotate_left
                    ·simp only [Act.put, List.setIfInBounds_toArray, List.set_cons_zero, List.set_cons_succ, i64_w, i32_w]
                     rfl
                    refine pure_ (i := 10) (N := some 72) (v := ?_) (a' := ?_) #[true, true, true, true, true, true, true, true, false, true, true, false, false, false, false, false, false, false, false] rfl rfl (any_of HT_.out (by kernel_rfl)) (fun _ _ _ h => h) (Or.inl ⟨by rfl, ?_⟩) ?_ ?_
                    rotate_left
                    ·intro w'
                     go_simp
                     with_reducible rfl
                    rotate_left
                    ·simp only [Act.put, List.setIfInBounds_toArray, List.set_cons_zero, List.set_cons_succ, i64_w, i32_w]
                     rfl
                    refine pure_ (i := 11) (N := some 73) (v := ?_) (a' := ?_) #[true, true, true, true, true, true, true, true, false, true, true, true, false, false, false, false, false, false, false] rfl rfl (any_of HT_.out (by kernel_rfl)) (fun _ _ _ h => h) (Or.inl ⟨by rfl, ?_⟩) ?_ ?_
                    rotate_left
                    ·intro w'
                     go_simp
                     with_reducible rfl
                    rotate_left
                    ·simp only [Act.put, List.setIfInBounds_toArray, List.set_cons_zero, List.set_cons_succ, i64_w, i32_w]
                     rfl
                    refine pure_ (i := 12) (N := some 74) (v := ?_) (a' := ?_) #[true, true, true, true, true, true, true, true, false, true, true, true, true, false, false, false, false, false, false] rfl rfl (any_of HT_.out (by kernel_rfl)) (fun _ _ _ h => h) (Or.inl ⟨by rfl, ?_⟩) ?_ ?_
                    rotate_left
                    ·intro w'
                     go_simp
                     with_reducible rfl
                    rotate_left
                    ·simp only [Act.put, List.setIfInBounds_toArray, List.set_cons_zero, List.set_cons_succ, i64_w, i32_w]
                     rfl
                    refine pure_ (i := 13) (N := some 75) (v := ?_) (a' := ?_) #[true, true, true, true, true, true, true, true, false, true, true, true, true, true, false, false, false, false, false] rfl rfl (any_of HT_.out (by kernel_rfl)) (fun _ _ _ h => h) (Or.inl ⟨by rfl, ?_⟩) ?_ ?_
                    rotate_left
                    ·intro w'
                     go_simp
                     with_reducible rfl
                    rotate_left
                    ·simp only [Act.put, List.setIfInBounds_toArray, List.set_cons_zero, List.set_cons_succ, i64_w, i32_w]
                     rfl
                    refine pure_ (i := 14) (N := some 76) (v := ?_) (a' := ?_) #[true, true, true, true, true, true, true, true, false, true, true, true, true, true, true, false, false, false, false] rfl rfl (any_of HT_.out (by kernel_rfl)) (fun _ _ _ h => h) (Or.inl ⟨by rfl, ?_⟩) ?_ ?_
                    rotate_left
                    ·intro w'
                     go_simp
                     with_reducible rfl
                    rotate_left
                    ·simp only [Act.put, List.setIfInBounds_toArray, List.set_cons_zero, List.set_cons_succ, i64_w, i32_w]
                     rfl
                    refine take_ (i := 8) (N := some 70) (v := ?_) (a' := ?_) #[true, true, true, true, true, true, true, true, true, true, true, true, true, true, true, false, false, false, false] rfl rfl (take_ofW HT_.out HW_.out (by kernel_rfl)) (fun _ _ _ h => h) (Or.inl ⟨by rfl, ?_⟩) hHeld ?_ ?_
                    rotate_left
                    ·intro w' s0
                     go_simp
                     with_reducible rfl
                    rotate_left
                    ·simp only [Act.put, List.setIfInBounds_toArray, List.set_cons_zero, List.set_cons_succ, i64_w, i32_w]
                     rfl
                    refine one_ (i := 15) (N := some 77) #[true, true, true, true, true, true, true, true, true, true, true, true, true, true, true, true, false, false, false] rfl rfl (one_of HT_.out (by kernel_rfl)) (by decide) (fun K hK => ?_)
                    refine goes_ Try.func71 (by kernel_rfl) rfl #[.int .i64 (Int.tmod (wrap64 ((wrap64 (x10_3 * a0)) + x12_4)) 8)] (by rfl) rfl rfl (by (try simp only [List.map_toArray, List.map_cons, List.map_nil]); first | done | rfl | (simp only [List.length_drop, List.length_take]; rfl)) ?_
                    with_reducible refine (marquetryref01_powers.calls k4 (Int.tmod (wrap64 ((wrap64 (x10_3 * a0)) + x12_4)) 8) t203 _ A23.out).mono ?_
                    rintro e w' ⟨rfl, ⟨nd, rfl⟩⟩
                    refine ⟨_, rfl, ?_⟩
                    have p24 : 0 ≤ ((ji20) : Int) := of_decide_eq_true (by first | (with_reducible assumption) | assumption)
                    have q24 : ((ji20) : Int) < ((x9_4.length : Int) : Int) := of_decide_eq_true (by first | (with_reducible assumption) | assumption)
                    obtain ⟨go24, co24, eo24, gb24, gl24, cl24, HG24⟩ := Kd.R_form HO_9.out (by omega)
                    (first | cases eo24 | (injection eo24 with ea_ en_ ec_; (first | subst ea_ | (injection ea_ with ea_; subst ea_)); subst ec_; clear en_))
                    have GB24 := Aside0.mk gb24
                    have GG24 := Aside0.mk HG24
                    clear gb24 gl24 HG24
                    (first | simp only [add_plain] at hx202_0 | skip)
                    obtain ⟨hx24_0, hf24_0⟩ := Kd.R_celln 0 HO_9.out ((ji20) : Int) p24 q24
                    replace p24 := eq_true p24
                    replace q24 := eq_true q24
                    have HP27 := Kd.R_putn HO_9.out ((ji20) : Int) (((rd x9_4 (ji20)) + t203) % 256)
                    rw [← Ny204.out] at HP27
                    have HQ27 := Aside0.mk HP27
                    clear HP27
                    refine hK.out _ _ (hHeld) (fun hHeld => ?_)
                    clear hK K
                    refine norm_ (a' := ?_) ?_ ?_
                    rotate_left
                    ·show Act.put _ (some 77) _ = _
                     simp only [Act.put, List.setIfInBounds_toArray, List.set_cons_zero, List.set_cons_succ, i64_w, i32_w]
                     rfl
                    refine pure_ (i := 16) (N := some 78) (v := ?_) (a' := ?_) #[true, true, true, true, true, true, true, true, true, true, true, true, true, true, true, true, true, false, false] rfl rfl (any_of HT_.out (by kernel_rfl)) (fun _ _ _ h => h) (Or.inl ⟨by rfl, ?_⟩) ?_ ?_
                    rotate_left
                    ·intro w'
                     go_simp
                     with_reducible rfl
                    rotate_left
                    ·simp only [Act.put, List.setIfInBounds_toArray, List.set_cons_zero, List.set_cons_succ, i64_w, i32_w]
                     rfl
                    refine pure_ (i := 17) (N := some 79) (v := ?_) (a' := ?_) #[true, true, true, true, true, true, true, true, true, true, true, true, true, true, true, true, true, true, false] rfl rfl (any_of HT_.out (by kernel_rfl)) (fun _ _ _ h => h) (Or.inl ⟨by rfl, ?_⟩) ?_ ?_
                    rotate_left
                    ·intro w'
                     go_simp
                     with_reducible rfl
                    rotate_left
                    ·simp only [Act.put, List.setIfInBounds_toArray, List.set_cons_zero, List.set_cons_succ, i64_w, i32_w]
                     rfl
                    refine last_ (i := 18) (N := none) #[true, true, true, true, true, true, true, true, true, true, true, true, true, true, true, true, true, true, true] rfl rfl (one_of HT_.out (by kernel_rfl)) (by decide) (fun K hK => ?_)
                    refine skip_ (w1 := ?_) (by rfl) rfl ?_ ?_
                    rotate_left
                    ·go_simp
                     rfl
                    refine hK.out _ _ ?_
                    clear hK K
                    refine done_ (done_of HT_.out (by kernel_rfl)) ?_
                    try go_wp2
                    go_roundg k4
                    case measure => have := HJ2.out; have := HK2.out; have := HK3.out; have := HK4.out; omega
                    case rel => exact ⟨(y204), (IntKind.u64.wrap (Int.tdiv x11_4 2)), (wrap64 (x12_4 + 1)), (by first | rfl | (simp; done) | (simp [*]; done)), (by first | rfl | (simp; done) | (simp [*]; done)), H', ⟨by have := HJ2.out; have := HK2.out; have := HK3.out; have := HK4.out; omega⟩, ⟨by (with_reducible repeat (first | apply Kd.R_alloc | apply Kd.R_drewN | apply Kd.R_drew)); exact HQ27.out⟩, ⟨by repeat (first | (with_reducible first | exact HB.out | apply below_alloc | apply pw_below_drewN | apply below_drew1 | refine below_set ?_ GB24.out) | exact HB.out)⟩⟩
                   ·rw [if_neg c22] at H
                    exact absurd H (by simp)
                  ·rw [if_neg c21] at H
                   exact absurd H (by simp)
                 ·rw [if_neg c19] at H
                  have c19b0 : ((Int.tmod x11_4 2) == 1) = false := beq_eq_false_iff_ne.mpr c19
                  have c19b1 : ((Int.tmod x11_4 2) != 1) = true := bne_iff_ne.mpr c19
                  have H' := Aside0.mk H
                  clear H
                  go_wp2
                  go_roundg k4
                  case measure => have := HJ2.out; have := HK2.out; have := HK3.out; have := HK4.out; omega
                  case rel => exact ⟨(x9_4), (IntKind.u64.wrap (Int.tdiv x11_4 2)), (wrap64 (x12_4 + 1)), (by first | rfl | (simp; done) | (simp [*]; done)), (by first | rfl | (simp; done) | (simp [*]; done)), H', ⟨by have := HJ2.out; have := HK2.out; have := HK3.out; have := HK4.out; omega⟩, ⟨by (with_reducible repeat (first | apply Kd.R_alloc | apply Kd.R_drewN | apply Kd.R_drew)); exact HO_9.out⟩, ⟨by repeat (first | (with_reducible first | exact HB.out | apply below_alloc | apply pw_below_drewN | apply below_drew1) | exact HB.out)⟩⟩
                ·rw [if_neg c18] at H
                 have c18b0 : decide (x12_4 < a0) = false := decide_eq_false c18
                 clear c18
                 have H' := Aside0.mk H
                 clear H
                 go_wp2
                 go_roundg k4
                 case measure => have := HJ2.out; have := HK2.out; have := HK3.out; have := HK4.out; omega
                 case rel => exact ⟨(x9_4), (wrap64 (x10_3 + 1)), (by first | rfl | (simp; done) | (simp [*]; done)), H', ⟨by have := HJ2.out; have := HK2.out; have := HK3.out; have := HK4.out; omega⟩, ⟨by (with_reducible repeat (first | apply Kd.R_alloc | apply Kd.R_drewN | apply Kd.R_drew)); exact HO_9.out⟩, ⟨by repeat (first | (with_reducible first | exact HB.out | apply below_alloc | apply pw_below_drewN | apply below_drew1) | exact HB.out)⟩⟩
             ·rw [if_neg c17] at H
              exact absurd H (by simp)
            ·rw [if_neg c16] at H
             have c16b0 : decide (x10_3 < (l1.length : Int)) = false := decide_eq_false c16
             clear c16
             simp only [Option.some.injEq, Prod.mk.injEq] at H
             obtain ⟨rfl, rfl⟩ := H
             go_wp2
             go_ret2
             exact ⟨_, by first | rfl | (simp [errW_none, errW_some] <;> rfl) | (simp [*, errW_none, errW_some] <;> rfl), by (with_reducible repeat (first | apply Kd.R_alloc | apply Kd.R_drewN | apply Kd.R_drew)); exact HO_9.out, by repeat (first | (with_reducible first | exact HB.out | apply below_alloc | apply pw_below_drewN | apply below_drew1) | exact HB.out)⟩
         ·rw [if_neg c13] at H
          exact absurd H (by simp)
        ·rw [if_neg c12] at H
         exact absurd H (by simp)
       ·rw [if_neg c11] at H
        have c11b0 : (t197 == 0) = false := beq_eq_false_iff_ne.mpr c11
        have c11b1 : (t197 != 0) = true := bne_iff_ne.mpr c11
        simp only [Option.some.injEq, Prod.mk.injEq] at H
        obtain ⟨rfl, rfl⟩ := H
        go_wp2_with (first | ((with_reducible refine gate_callee (f := 70) rfl ?_); refine goesL_ (some 36) rfl rfl Try.func70 (by kernel_rfl) rfl #[.int .i64 a0, .int .i64 (l1.length : Int)] rfl (by (try simp only [List.map_toArray, List.map_cons, List.map_nil]); first | done | rfl | (simp only [List.length_drop, List.length_take]; rfl)) ?_; (with_reducible refine (marquetryref01_Size.calls k2 a0 (l1.length : Int) t196 t197 _ A10.out).mono ?_); rintro e w' ⟨rfl, ⟨nd, rfl⟩⟩; refine ⟨_, rfl, ?_⟩))
        go_ret2
        exact ⟨_, by first | rfl | (simp [errW_none, errW_some] <;> rfl) | (simp [*, errW_none, errW_some] <;> rfl), by first | exact Kd.R_nil _ _ _ _ _ | exact Kd.N_nil _ _ _ _ _ | exact Kd.V_nil _ _ _ _ _ | exact Kd.Q_nil _ _ _ _ _ | exact Kd.S_nil _ _ _ _ _, by repeat (first | (with_reducible first | exact HB.out | apply below_alloc | apply pw_below_drewN | apply below_drew1) | exact HB.out)⟩

end Go.Proofs.Ytpibhiacmceekaa.X

namespace Go.Proofs.Ytpibhiacmceekaa.X
open Go.RowKit Go.Proofs.YtpibhiacmceekaaW.PrintWords Go.Proofs.YtpibhiacmceekaaW.PrintLast Go.Proofs.YtpibhiacmceekaaW.PrintMore
attribute [local go_sem] max2_int min2_int max_two min_two max_three min_three max_four min_four   -- for this text's walks alone
set_option linter.unusedVariables false
set_option linter.unusedSimpArgs false

/-! ### marquetryref11_Told: function 43 -/
mutual
def marquetryref11_Told.l0 : Nat → Int → List Int → List Int → Int → Option (List Int)
 | 0, _, _, _, _ => none
 | k + 1, x0, x1, x5, x6 => if x6 < (x1.length : Int) then ((marquetryref11_same.f k x1 x6).bind fun t205 => (if t205 ≥ 8 then (if 0 ≤ x6 then ((marquetryref01_Little.f k (IntKind.u64.wrap (rd x1 x6)) (wrap64 (Int.tdiv (wrap64 (x0 + 7)) 8))).bind fun bt207 => ((marquetryref01_Varint.f k (IntKind.u64.wrap (wrap64 (2 * t205)))).bind fun t211 => (if x5.length + t211.length < 140737488355328 then ((some (x5 ++ t211 : List Int)).bind fun y214 => (if y214.length + bt207.1.length < 140737488355328 then (marquetryref11_Told.l0 k x0 x1 (y214 ++ bt207.1) (wrap64 (x6 + t205))) else (none))) else (none)))) else (none)) else ((marquetryref11_packs.f k x1 x6).bind fun t220 => (marquetryref11_Told.l1 k x0 x1 x5 x6 t220 ([] : List Int) 0)))) else (some x5)
def marquetryref11_Told.l1 : Nat → Int → List Int → List Int → Int → Int → List Int → Int → Option (List Int)
 | 0, _, _, _, _, _, _, _ => none
 | k + 1, x0, x1, x5, x6, x7, x10, x11 => if x11 < x7 then (marquetryref11_Told.j2 k x0 x1 x5 x6 x7 x10 x11 true) else (marquetryref11_Told.j2 k x0 x1 x5 x6 x7 x10 x11 (((x10.length : Int) % 8) != 0))
def marquetryref11_Told.j2 : Nat → Int → List Int → List Int → Int → Int → List Int → Int → Bool → Option (List Int)
 | 0, _, _, _, _, _, _, _, _ => none
 | k + 1, x0, x1, x5, x6, x7, x10, x11, x58 => if x58 = true then (if x11 < x7 then (if 0 ≤ (wrap64 (x6 + x11)) then (if (wrap64 (x6 + x11)) < (x1.length : Int) then (if x10.length < 17592186044416 then (marquetryref11_Told.l1 k x0 x1 x5 x6 x7 (x10 ++ [IntKind.u64.wrap (rd x1 (wrap64 (x6 + x11)))]) (wrap64 (x11 + 1))) else (none)) else (none)) else (none)) else (if x10.length < 17592186044416 then (marquetryref11_Told.l1 k x0 x1 x5 x6 x7 (x10 ++ [0]) (wrap64 (x11 + 1))) else (none))) else ((marquetryref01_Pack.f k x0 x10).bind fun bt228 => ((marquetryref01_Varint.f k (IntKind.u64.wrap (wrap64 ((wrap64 (2 * (wrap64 ((x10.length : Int) / 8)))) + 1)))).bind fun t232 => (if x5.length + t232.length < 140737488355328 then ((some (x5 ++ t232 : List Int)).bind fun y235 => (if y235.length + bt228.1.length < 140737488355328 then (marquetryref11_Told.l0 k x0 x1 (y235 ++ bt228.1) (wrap64 (x6 + x7))) else (none))) else (none))))
end
def marquetryref11_Told.f (k : Nat) (a0 : Int) (l1 : List Int) : Option (List Int) := marquetryref11_Told.l0 k a0 l1 ([] : List Int) 0
theorem marquetryref11_Told.mono_l : ∀ k, (∀ y0 y1 y2 y3, LeO (marquetryref11_Told.l0 k y0 y1 y2 y3) (marquetryref11_Told.l0 (k + 1) y0 y1 y2 y3)) ∧ (∀ y0 y1 y2 y3 y4 y5 y6, LeO (marquetryref11_Told.l1 k y0 y1 y2 y3 y4 y5 y6) (marquetryref11_Told.l1 (k + 1) y0 y1 y2 y3 y4 y5 y6)) ∧ (∀ y0 y1 y2 y3 y4 y5 y6 y7, LeO (marquetryref11_Told.j2 k y0 y1 y2 y3 y4 y5 y6 y7) (marquetryref11_Told.j2 (k + 1) y0 y1 y2 y3 y4 y5 y6 y7))
 | 0 => ⟨fun _ _ _ _ r h => by simp [marquetryref11_Told.l0] at h, fun _ _ _ _ _ _ _ r h => by simp [marquetryref11_Told.l1] at h, fun _ _ _ _ _ _ _ _ r h => by simp [marquetryref11_Told.j2] at h⟩
 | k + 1 => by
  obtain ⟨ih0, ih1, ih2⟩ := marquetryref11_Told.mono_l k
  refine ⟨?_, ?_, ?_⟩
  ·intro y0 y1 y2 y3
   unfold marquetryref11_Told.l0
   repeat' first
   | (with_reducible exact ih0 _ _ _ _)
   | (with_reducible exact ih1 _ _ _ _ _ _ _)
   | (with_reducible exact ih2 _ _ _ _ _ _ _ _)
   | (with_reducible exact marquetryref01_Little.mono _ _ _)
   | (with_reducible exact marquetryref01_Pack.mono _ _ _)
   | (with_reducible exact marquetryref01_Varint.mono _ _)
   | (with_reducible exact marquetryref11_packs.mono _ _ _)
   | (with_reducible exact marquetryref11_same.mono _ _ _)
   | (with_reducible exact LeO.refl _)
   | (with_reducible exact LeO.none _)
   | (with_reducible refine LeO.ite ?_ ?_)
   | (with_reducible refine LeO.bind ?_ (fun _ => ?_))
   | exact ih0 _ _ _ _
   | exact ih1 _ _ _ _ _ _ _
   | exact ih2 _ _ _ _ _ _ _ _
   | exact marquetryref01_Little.mono _ _ _
   | exact marquetryref01_Pack.mono _ _ _
   | exact marquetryref01_Varint.mono _ _
   | exact marquetryref11_packs.mono _ _ _
   | exact marquetryref11_same.mono _ _ _
   | exact LeO.none _
   | refine LeO.ite ?_ ?_
   | refine LeO.bind ?_ (fun _ => ?_)
  ·intro y0 y1 y2 y3 y4 y5 y6
   unfold marquetryref11_Told.l1
   repeat' first
   | (with_reducible exact ih0 _ _ _ _)
   | (with_reducible exact ih1 _ _ _ _ _ _ _)
   | (with_reducible exact ih2 _ _ _ _ _ _ _ _)
   | (with_reducible exact marquetryref01_Little.mono _ _ _)
   | (with_reducible exact marquetryref01_Pack.mono _ _ _)
   | (with_reducible exact marquetryref01_Varint.mono _ _)
   | (with_reducible exact marquetryref11_packs.mono _ _ _)
   | (with_reducible exact marquetryref11_same.mono _ _ _)
   | (with_reducible exact LeO.refl _)
   | (with_reducible exact LeO.none _)
   | (with_reducible refine LeO.ite ?_ ?_)
   | (with_reducible refine LeO.bind ?_ (fun _ => ?_))
   | exact ih0 _ _ _ _
   | exact ih1 _ _ _ _ _ _ _
   | exact ih2 _ _ _ _ _ _ _ _
   | exact marquetryref01_Little.mono _ _ _
   | exact marquetryref01_Pack.mono _ _ _
   | exact marquetryref01_Varint.mono _ _
   | exact marquetryref11_packs.mono _ _ _
   | exact marquetryref11_same.mono _ _ _
   | exact LeO.none _
   | refine LeO.ite ?_ ?_
   | refine LeO.bind ?_ (fun _ => ?_)
  ·intro y0 y1 y2 y3 y4 y5 y6 y7
   unfold marquetryref11_Told.j2
   repeat' first
   | (with_reducible exact ih0 _ _ _ _)
   | (with_reducible exact ih1 _ _ _ _ _ _ _)
   | (with_reducible exact ih2 _ _ _ _ _ _ _ _)
   | (with_reducible exact marquetryref01_Little.mono _ _ _)
   | (with_reducible exact marquetryref01_Pack.mono _ _ _)
   | (with_reducible exact marquetryref01_Varint.mono _ _)
   | (with_reducible exact marquetryref11_packs.mono _ _ _)
   | (with_reducible exact marquetryref11_same.mono _ _ _)
   | (with_reducible exact LeO.refl _)
   | (with_reducible exact LeO.none _)
   | (with_reducible refine LeO.ite ?_ ?_)
   | (with_reducible refine LeO.bind ?_ (fun _ => ?_))
   | exact ih0 _ _ _ _
   | exact ih1 _ _ _ _ _ _ _
   | exact ih2 _ _ _ _ _ _ _ _
   | exact marquetryref01_Little.mono _ _ _
   | exact marquetryref01_Pack.mono _ _ _
   | exact marquetryref01_Varint.mono _ _
   | exact marquetryref11_packs.mono _ _ _
   | exact marquetryref11_same.mono _ _ _
   | exact LeO.none _
   | refine LeO.ite ?_ ?_
   | refine LeO.bind ?_ (fun _ => ?_)
theorem marquetryref11_Told.mono : ∀ a0 a1 k, LeO (marquetryref11_Told.f k a0 a1) (marquetryref11_Told.f (k + 1) a0 a1) := by
 intro a0 a1 k
 obtain ⟨ih0, ih1, ih2⟩ := marquetryref11_Told.mono_l k
 unfold marquetryref11_Told.f
 repeat' first
   | (with_reducible exact ih0 _ _ _ _)
   | (with_reducible exact ih1 _ _ _ _ _ _ _)
   | (with_reducible exact ih2 _ _ _ _ _ _ _ _)
   | (with_reducible exact marquetryref01_Little.mono _ _ _)
   | (with_reducible exact marquetryref01_Pack.mono _ _ _)
   | (with_reducible exact marquetryref01_Varint.mono _ _)
   | (with_reducible exact marquetryref11_packs.mono _ _ _)
   | (with_reducible exact marquetryref11_same.mono _ _ _)
   | (with_reducible exact LeO.refl _)
   | (with_reducible exact LeO.none _)
   | (with_reducible refine LeO.ite ?_ ?_)
   | (with_reducible refine LeO.bind ?_ (fun _ => ?_))
   | exact ih0 _ _ _ _
   | exact ih1 _ _ _ _ _ _ _
   | exact ih2 _ _ _ _ _ _ _ _
   | exact marquetryref01_Little.mono _ _ _
   | exact marquetryref01_Pack.mono _ _ _
   | exact marquetryref01_Varint.mono _ _
   | exact marquetryref11_packs.mono _ _ _
   | exact marquetryref11_same.mono _ _ _
   | exact LeO.none _
   | refine LeO.ite ?_ ?_
   | refine LeO.bind ?_ (fun _ => ?_)
set_option maxHeartbeats 8000000 in
set_option maxRecDepth 100000 in
theorem marquetryref11_Told.calls (k : Nat) (a0 : Int) (A1 : Option Addr) (c1 : Nat) (l1 : List Int) (r : List Int) (w : World) (hr1 : Kd.C (Kd.int .i64) w A1 l1.length l1) (hc1 : l1.length ≤ c1) (h : marquetryref11_Told.f k a0 l1 = some r) :
  Calls Try.prog 43 #[.int .i64 a0, .slice A1 l1.length c1] w fun e w' => ∃ v0_ : Value, e = .returned (v0_) ∧ Kd.R (Kd.int .u8) 5 w' w.heap.size (fun _ => True) v0_ r ∧ Below w.heap.size w w' := by
 have HR1 := Aside0.mk hr1
 have HC1 := Aside0.mk hc1
 clear hr1 hc1
 have HB := Aside0.mk (Below.refl w.heap.size w)
 have H : (marquetryref11_Told.l0 k a0 l1 ([] : List Int) 0) = some r := h
 clear h
 have H' := Aside0.mk H
 clear H
 go_enter Try.func43, Try.ntmps43
 go_wp2
 go_loopg [5, 6] k (fun kq v5 v6 w' => ∃ (x5_1 : List Int) (x6_1 : Int), v6 = .int .i64 x6_1 ∧ Aside0 (marquetryref11_Told.l0 kq a0 l1 x5_1 x6_1 = some r) ∧ Aside0 (kq ≤ k) ∧ Aside0 (Kd.R (Kd.int .u8) 5 w' w.heap.size (fun _ => True) v5 x5_1) ∧ Aside0 (Below w.heap.size w w'))
 case atStart => exact ⟨(([] : List Int)), (0), (by first | rfl | (simp; done) | (simp [*]; done)), H', ⟨Nat.le_refl _⟩, ⟨by first | exact Kd.R_nil _ _ _ _ _ | exact Kd.N_nil _ _ _ _ _ | exact Kd.V_nil _ _ _ _ _ | exact Kd.Q_nil _ _ _ _ _ | exact Kd.S_nil _ _ _ _ _⟩, ⟨by repeat (first | (with_reducible first | exact HB.out | apply below_alloc | apply pw_below_drewN | apply below_drew1) | exact HB.out)⟩⟩
 case round =>
  clear H'
  try clear c1
  try clear p2
  obtain ⟨x5_1, x6_1, rfl, HA, HK1, HO_5, HB⟩ := hrel
  cases gk with
  | zero => exact absurd HA.out (by simp [marquetryref11_Told.l0])
  | succ k1 =>
   have H := HA.out
   clear HA
   simp only [marquetryref11_Told.l0] at H
   by_cases c3 : x6_1 < (l1.length : Int)
   ·rw [if_pos c3] at H
    have c3b0 : decide (x6_1 < (l1.length : Int)) = true := decide_eq_true c3
    clear c3
    replace H := Option.bind_eq_some_iff.mp H
    obtain ⟨t205, A40, H⟩ := H
    replace H : (if t205 ≥ 8 then (if 0 ≤ x6_1 then ((marquetryref01_Little.f k1 (IntKind.u64.wrap (rd l1 x6_1)) (wrap64 (Int.tdiv (wrap64 (a0 + 7)) 8))).bind fun bt207 => ((marquetryref01_Varint.f k1 (IntKind.u64.wrap (wrap64 (2 * t205)))).bind fun t211 => (if x5_1.length + t211.length < 140737488355328 then ((some (x5_1 ++ t211 : List Int)).bind fun y214 => (if y214.length + bt207.1.length < 140737488355328 then (marquetryref11_Told.l0 k1 a0 l1 (y214 ++ bt207.1) (wrap64 (x6_1 + t205))) else (none))) else (none)))) else (none)) else ((marquetryref11_packs.f k1 l1 x6_1).bind fun t220 => (marquetryref11_Told.l1 k1 a0 l1 x5_1 x6_1 t220 ([] : List Int) 0))) = some r := H
    have A4 := Aside0.mk A40
    clear A40
    by_cases c5 : t205 ≥ 8
    ·rw [if_pos c5] at H
     have c5b0 : decide (8 ≤ t205) = true := decide_eq_true c5
     clear c5
     by_cases c6 : 0 ≤ x6_1
     ·rw [if_pos c6] at H
      have c6b0 : decide (0 ≤ x6_1) = true := decide_eq_true c6
      clear c6
      replace H := Option.bind_eq_some_iff.mp H
      obtain ⟨⟨t207, t208⟩, A70, H⟩ := H
      replace H : ((marquetryref01_Varint.f k1 (IntKind.u64.wrap (wrap64 (2 * t205)))).bind fun t211 => (if x5_1.length + t211.length < 140737488355328 then ((some (x5_1 ++ t211 : List Int)).bind fun y214 => (if y214.length + t207.length < 140737488355328 then (marquetryref11_Told.l0 k1 a0 l1 (y214 ++ t207) (wrap64 (x6_1 + t205))) else (none))) else (none))) = some r := H
      have A7 := Aside0.mk A70
      clear A70
      replace H := Option.bind_eq_some_iff.mp H
      obtain ⟨t211, A80, H⟩ := H
      replace H : (if x5_1.length + t211.length < 140737488355328 then ((some (x5_1 ++ t211 : List Int)).bind fun y214 => (if y214.length + t207.length < 140737488355328 then (marquetryref11_Told.l0 k1 a0 l1 (y214 ++ t207) (wrap64 (x6_1 + t205))) else (none))) else (none)) = some r := H
      have A8 := Aside0.mk A80
      clear A80
      by_cases c9 : x5_1.length + t211.length < 140737488355328
      ·rw [if_pos c9] at H
       have LMc9 := Aside0.mk c9
       clear c9
       obtain ⟨y214, hy214⟩ : ∃ y_ : List Int, y_ = (x5_1 ++ t211) := ⟨_, rfl⟩
       replace H : (if y214.length + t207.length < 140737488355328 then (marquetryref11_Told.l0 k1 a0 l1 (y214 ++ t207) (wrap64 (x6_1 + t205))) else (none)) = some r := by first | (rw [hy214]; with_reducible exact H) | (have H2_ := (Option.bind_some _ _).symm.trans H; rw [hy214]; with_reducible exact H2_) | (have H2_ := (Option.bind_some _ _).symm.trans H; with_reducible exact H2_) | with_reducible exact H | (rw [hy214]; exact H) | exact H
       have Ny214 := Aside0.mk hy214
       clear hy214
       by_cases c10 : y214.length + t207.length < 140737488355328
       ·rw [if_pos c10] at H
        have LMc10 := Aside0.mk c10
        clear c10
        obtain ⟨y217, hy217⟩ : ∃ y_ : List Int, y_ = (y214 ++ t207) := ⟨_, rfl⟩
        replace H : (marquetryref11_Told.l0 k1 a0 l1 y217 (wrap64 (x6_1 + t205))) = some r := by first | (rw [hy217]; with_reducible exact H) | (have H2_ := (Option.bind_some _ _).symm.trans H; rw [hy217]; with_reducible exact H2_) | (have H2_ := (Option.bind_some _ _).symm.trans H; with_reducible exact H2_) | with_reducible exact H | (rw [hy217]; exact H) | exact H
        have Ny217 := Aside0.mk hy217
        clear hy217
        have H' := Aside0.mk H
        clear H
        go_wp2_with (first | ((with_reducible refine gate_callee (f := 57) rfl ?_); refine goesL_ (some 21) rfl rfl Try.func57 (by kernel_rfl) rfl #[.slice A1 l1.length c1, .int .i64 x6_1] rfl (by (try simp only [List.map_toArray, List.map_cons, List.map_nil]); first | done | rfl | (simp only [List.length_drop, List.length_take]; rfl)) ?_; (with_reducible refine (marquetryref11_same.calls k1 _ _ l1 x6_1 t205 _ ?side1 ?side2 A4.out).mono ?_); (case side1 => repeat (first | exact (Kd.C_below HR1.out HB.out) | (with_reducible refine Kd.C_alloc ?_ _) | (with_reducible refine Kd.C_drewN ?_ _) | (with_reducible refine Kd.C_drew ?_))); (case side2 => exact HC1.out); rintro e w' ⟨rfl, ⟨nd, rfl⟩⟩; refine ⟨_, rfl, ?_⟩; have p206 : 0 ≤ (x6_1 : Int) := of_decide_eq_true (by first | (with_reducible assumption) | assumption); have q206 : x6_1 < (l1.length : Int) := of_decide_eq_true (by first | (with_reducible assumption) | assumption); obtain ⟨ad206, e206, hx206_0⟩ := Kd.at_int HR1.out x6_1 p206 q206; cases e206; replace hx206_0 := (HB.out.cell (World.block_lt_of_cell? w _ hx206_0)).trans hx206_0; replace p206 := eq_true p206; replace q206 := eq_true q206) | ((with_reducible refine gate_callee (f := 48) rfl ?_); refine goesL_ (some 33) rfl rfl Try.func48 (by kernel_rfl) rfl #[.int .u64 (IntKind.u64.wrap (rd l1 x6_1)), .int .i64 (wrap64 (Int.tdiv (wrap64 (a0 + 7)) 8))] rfl (by (try simp only [List.map_toArray, List.map_cons, List.map_nil]); first | done | rfl | (simp only [List.length_drop, List.length_take]; rfl)) ?_; (with_reducible refine (marquetryref01_Little.calls k1 (IntKind.u64.wrap (rd l1 x6_1)) (wrap64 (Int.tdiv (wrap64 (a0 + 7)) 8)) t207 t208 _ A7.out).mono ?_); rintro e w11 ⟨v209, rfl, ho0, hb⟩; refine ⟨_, rfl, ?_⟩; have n0_ := Aside0.mk (Kd.R_elder' (by (with_reducible repeat (first | apply Kd.R_alloc | apply Kd.R_drewN | apply Kd.R_drew)); exact HO_5.out) (Kd.R_base ho0) hb); have n1_ := Aside0.mk (Kd.R_lower (Kd.R_new' ho0 (Kd.R_lt (by (with_reducible repeat (first | apply Kd.R_alloc | apply Kd.R_drewN | apply Kd.R_drew)); exact HO_5.out))) (below_size (by repeat (first | (with_reducible first | exact HB.out | apply below_alloc | apply pw_below_drewN | apply below_drew1) | exact HB.out)))); have n2_ := Aside0.mk (below_step (by repeat (first | (with_reducible first | exact HB.out | apply below_alloc | apply pw_below_drewN | apply below_drew1) | exact HB.out)) hb); clear HO_5; clear HB; have HO_5 := n0_; have HO210 := n1_; have HB := n2_; clear n0_ n1_ n2_; (try clear hb); (try clear hb2); (try clear hk); (try clear hi); (try clear ho0)) | ((with_reducible refine gate_callee (f := 58) rfl ?_); refine goesL_ (some 40) rfl rfl Try.func58 (by kernel_rfl) rfl #[.int .u64 (IntKind.u64.wrap (wrap64 (2 * t205)))] rfl (by (try simp only [List.map_toArray, List.map_cons, List.map_nil]); first | done | rfl | (simp only [List.length_drop, List.length_take]; rfl)) ?_; (with_reducible refine (marquetryref01_Varint.calls k1 (IntKind.u64.wrap (wrap64 (2 * t205))) t211 _ A8.out).mono ?_); rintro e w12 ⟨v212, rfl, ho0, hb⟩; refine ⟨_, rfl, ?_⟩; have n0_ := Aside0.mk (Kd.R_elder' (by (with_reducible repeat (first | apply Kd.R_alloc | apply Kd.R_drewN | apply Kd.R_drew)); exact HO_5.out) (Kd.R_base ho0) hb); have n1_ := Aside0.mk (Kd.R_elder' (by (with_reducible repeat (first | apply Kd.R_alloc | apply Kd.R_drewN | apply Kd.R_drew)); exact HO210.out) (Kd.R_base ho0) hb); have n2_ := Aside0.mk (Kd.R_lower (Kd.R_new' (Kd.R_new' ho0 (Kd.R_lt (by (with_reducible repeat (first | apply Kd.R_alloc | apply Kd.R_drewN | apply Kd.R_drew)); exact HO_5.out))) (Kd.R_lt (by (with_reducible repeat (first | apply Kd.R_alloc | apply Kd.R_drewN | apply Kd.R_drew)); exact HO210.out))) (below_size (by repeat (first | (with_reducible first | exact HB.out | apply below_alloc | apply pw_below_drewN | apply below_drew1) | exact HB.out)))); have n3_ := Aside0.mk (below_step (by repeat (first | (with_reducible first | exact HB.out | apply below_alloc | apply pw_below_drewN | apply below_drew1) | exact HB.out)) hb); clear HO_5; clear HO210; clear HB; have HO_5 := n0_; have HO210 := n1_; have HO213 := n2_; have HB := n3_; clear n0_ n1_ n2_ n3_; (try clear hb); (try clear hb2); (try clear hk); (try clear hi); (try clear ho0); obtain ⟨Ao14, co14, eo14⟩ := Kd.R_slice HO213.out; subst eo14) | ((with_reducible refine gate_builtin (b := .append) (xs := #[.tmp 36, .tmp 40]) rfl ?_); (try (refine gate_guard (by rfl) ?_; dsimp only)); at_builtin; refine Kd.R_append_rows (Kd.int .u8) (w0 := w) w.heap.size rfl (.tmp 36) (.tmp 40) 37 5 (.int .u8 0) 1 rfl Try.underlying37 info5 rfl (by decide) (by omega) u5 x5_1 t211 _ _ _ (fun k_ => some k_ ≠ (v209 : Value).ownBlock ∧ some k_ ≠ (.slice Ao14 t211.length co14 : Value).ownBlock) (fun _ => False) rfl rfl ?aO ?aR (fun _ _ h => h) (fun _ h => h.elim) ?aF ?aB ?aS ?aL ?_; (case aR => repeat (first | exact (Kd.R_reads' HO213.out).2.2 | (with_reducible refine Kd.C_alloc ?_ _) | (with_reducible refine Kd.C_drewN ?_ _) | (with_reducible refine Kd.C_drew ?_))); (case aB => exact (by repeat (first | (with_reducible first | exact HB.out | apply below_alloc | apply pw_below_drewN | apply below_drew1) | exact HB.out))); (case aF => exact (fun k_ hk => ⟨Kd.fresh' (Kd.R_lt (by (with_reducible repeat (first | apply Kd.R_alloc | apply Kd.R_drewN | apply Kd.R_drew)); exact HO210.out)) k_ hk, Kd.fresh' (Kd.R_lt (by (with_reducible repeat (first | apply Kd.R_alloc | apply Kd.R_drewN | apply Kd.R_drew)); exact HO213.out)) k_ hk⟩)); (case aO => exact (by (with_reducible repeat (first | apply Kd.R_alloc | apply Kd.R_drewN | apply Kd.R_drew)); exact Kd.R_mono HO_5.out (fun _ hk => ⟨hk.1.2, hk.2⟩))); (case aS => exact (below_size (by repeat (first | (with_reducible first | exact HB.out | apply below_alloc | apply pw_below_drewN | apply below_drew1) | exact HB.out)))); (case aL => have := LMc9.out; omega); intro v215 w13 ho hb hg hat; rw [← Ny214.out] at ho; have n0_ := Aside0.mk (Kd.R_after (ok := (fun k_ => some k_ ≠ (.slice Ao14 t211.length co14 : Value).ownBlock)) (by (with_reducible repeat (first | apply Kd.R_alloc | apply Kd.R_drewN | apply Kd.R_drew)); exact Kd.R_mono HO210.out (fun _ hk => ⟨hk.2, hk.1.2⟩)) hg hat); have n1_ := Aside0.mk (Kd.R_after (ok := (fun k_ => some k_ ≠ (v209 : Value).ownBlock)) (by (with_reducible repeat (first | apply Kd.R_alloc | apply Kd.R_drewN | apply Kd.R_drew)); exact Kd.R_mono HO213.out (fun _ hk => ⟨hk.2, hk.1.2⟩)) hg hat); have n2_ := Aside0.mk (hb); have n3_ := Aside0.mk (ho); clear HO210; clear HO213; clear HB; clear HO_5; have HO210 := n0_; have HO213 := n1_; have HB := n2_; have HO216 := n3_; clear n0_ n1_ n2_ n3_; clear ho hb hg hat; obtain ⟨Ao16, co16, eo16⟩ := Kd.R_slice HO210.out; subst eo16) | ((with_reducible refine gate_builtin (b := .append) (xs := #[.tmp 41, .tmp 42]) rfl ?_); (try (refine gate_guard (by rfl) ?_; dsimp only)); at_builtin; refine Kd.R_append_rows (Kd.int .u8) (w0 := w) w.heap.size rfl (.tmp 41) (.tmp 42) 37 5 (.int .u8 0) 1 rfl Try.underlying37 info5 rfl (by decide) (by omega) v215 y214 t207 _ _ _ (fun k_ => some k_ ≠ (.slice Ao16 t207.length co16 : Value).ownBlock ∧ some k_ ≠ (.slice Ao14 t211.length co14 : Value).ownBlock) (fun _ => False) rfl rfl ?aO ?aR (fun _ _ h => h) (fun _ h => h.elim) ?aF ?aB ?aS ?aL ?_; (case aR => repeat (first | exact (Kd.R_reads' HO210.out).2.2 | (with_reducible refine Kd.C_alloc ?_ _) | (with_reducible refine Kd.C_drewN ?_ _) | (with_reducible refine Kd.C_drew ?_))); (case aB => exact (by repeat (first | (with_reducible first | exact HB.out | apply below_alloc | apply pw_below_drewN | apply below_drew1) | exact HB.out))); (case aF => exact (fun k_ hk => ⟨Kd.fresh' (Kd.R_lt (by (with_reducible repeat (first | apply Kd.R_alloc | apply Kd.R_drewN | apply Kd.R_drew)); exact HO210.out)) k_ hk, Kd.fresh' (Kd.R_lt (by (with_reducible repeat (first | apply Kd.R_alloc | apply Kd.R_drewN | apply Kd.R_drew)); exact HO213.out)) k_ hk⟩)); (case aO => exact (by (with_reducible repeat (first | apply Kd.R_alloc | apply Kd.R_drewN | apply Kd.R_drew)); exact HO216.out)); (case aS => exact (below_size (by repeat (first | (with_reducible first | exact HB.out | apply below_alloc | apply pw_below_drewN | apply below_drew1) | exact HB.out)))); (case aL => have := LMc10.out; omega); intro v218 w15 ho hb hg hat; rw [← Ny217.out] at ho; have n0_ := Aside0.mk (Kd.R_after (ok := (fun k_ => some k_ ≠ (.slice Ao14 t211.length co14 : Value).ownBlock)) (by (with_reducible repeat (first | apply Kd.R_alloc | apply Kd.R_drewN | apply Kd.R_drew)); exact HO210.out) hg hat); have n1_ := Aside0.mk (Kd.R_after (ok := (fun k_ => some k_ ≠ (.slice Ao16 t207.length co16 : Value).ownBlock)) (by (with_reducible repeat (first | apply Kd.R_alloc | apply Kd.R_drewN | apply Kd.R_drew)); exact HO213.out) hg hat); have n2_ := Aside0.mk (hb); have n3_ := Aside0.mk (ho); clear HO210; clear HO213; clear HB; clear HO216; have HO210 := n0_; have HO213 := n1_; have HB := n2_; have HO219 := n3_; clear n0_ n1_ n2_ n3_; clear ho hb hg hat))
        go_roundg k1
        case measure => have := HK1.out; omega
        case rel => exact ⟨(y217), (wrap64 (x6_1 + t205)), (by first | rfl | (simp; done) | (simp [*]; done)), H', ⟨by have := HK1.out; omega⟩, ⟨by (with_reducible repeat (first | apply Kd.R_alloc | apply Kd.R_drewN | apply Kd.R_drew)); exact Kd.R_mono HO219.out (fun _ hk => trivial)⟩, ⟨by repeat (first | (with_reducible first | exact HB.out | apply below_alloc | apply pw_below_drewN | apply below_drew1) | exact HB.out)⟩⟩
       ·rw [if_neg c10] at H
        exact absurd H (by simp)
      ·rw [if_neg c9] at H
       exact absurd H (by simp)
     ·rw [if_neg c6] at H
      exact absurd H (by simp)
    ·rw [if_neg c5] at H
     have c5b0 : decide (8 ≤ t205) = false := decide_eq_false c5
     clear c5
     replace H := Option.bind_eq_some_iff.mp H
     obtain ⟨t220, A170, H⟩ := H
     replace H : (marquetryref11_Told.l1 k1 a0 l1 x5_1 x6_1 t220 ([] : List Int) 0) = some r := H
     have A17 := Aside0.mk A170
     clear A170
     have H' := Aside0.mk H
     clear H
     go_wp2_with (first | ((with_reducible refine gate_callee (f := 57) rfl ?_); refine goesL_ (some 21) rfl rfl Try.func57 (by kernel_rfl) rfl #[.slice A1 l1.length c1, .int .i64 x6_1] rfl (by (try simp only [List.map_toArray, List.map_cons, List.map_nil]); first | done | rfl | (simp only [List.length_drop, List.length_take]; rfl)) ?_; (with_reducible refine (marquetryref11_same.calls k1 _ _ l1 x6_1 t205 _ ?side1 ?side2 A4.out).mono ?_); (case side1 => repeat (first | exact (Kd.C_below HR1.out HB.out) | (with_reducible refine Kd.C_alloc ?_ _) | (with_reducible refine Kd.C_drewN ?_ _) | (with_reducible refine Kd.C_drew ?_))); (case side2 => exact HC1.out); rintro e w' ⟨rfl, ⟨nd, rfl⟩⟩; refine ⟨_, rfl, ?_⟩) | ((with_reducible refine gate_callee (f := 59) rfl ?_); refine goesL_ (some 49) rfl rfl Try.func59 (by kernel_rfl) rfl #[.slice A1 l1.length c1, .int .i64 x6_1] rfl (by (try simp only [List.map_toArray, List.map_cons, List.map_nil]); first | done | rfl | (simp only [List.length_drop, List.length_take]; rfl)) ?_; (with_reducible refine (marquetryref11_packs.calls k1 _ _ l1 x6_1 t220 _ ?side1 ?side2 A17.out).mono ?_); (case side1 => repeat (first | exact (Kd.C_below HR1.out (by repeat (first | (with_reducible first | exact HB.out | apply below_alloc | apply pw_below_drewN | apply below_drew1) | exact HB.out))) | (with_reducible refine Kd.C_alloc ?_ _) | (with_reducible refine Kd.C_drewN ?_ _) | (with_reducible refine Kd.C_drew ?_))); (case side2 => exact HC1.out); rintro e w' ⟨rfl, ⟨nd, rfl⟩⟩; refine ⟨_, rfl, ?_⟩))
     go_loopg [10, 11] k1 (fun kq v10 v11 w' => ∃ (x10_2 : List Int) (x11_2 : Int), v11 = .int .i64 x11_2 ∧ Aside0 (marquetryref11_Told.l1 kq a0 l1 x5_1 x6_1 t220 x10_2 x11_2 = some r) ∧ Aside0 (kq ≤ k1) ∧ Aside0 (Kd.R (Kd.int .u8) 5 w' w.heap.size (fun _ => True) u5 x5_1) ∧ Aside0 (Kd.R (Kd.int .u64) 61 w' w.heap.size (fun _ => True) v10 x10_2) ∧ Aside0 (Below w.heap.size w w'))
     case atStart => exact ⟨(([] : List Int)), (0), (by first | rfl | (simp; done) | (simp [*]; done)), H', ⟨Nat.le_refl _⟩, ⟨by (with_reducible repeat (first | apply Kd.R_alloc | apply Kd.R_drewN | apply Kd.R_drew)); exact HO_5.out⟩, ⟨by first | exact Kd.R_nil _ _ _ _ _ | exact Kd.N_nil _ _ _ _ _ | exact Kd.V_nil _ _ _ _ _ | exact Kd.Q_nil _ _ _ _ _ | exact Kd.S_nil _ _ _ _ _⟩, ⟨by repeat (first | (with_reducible first | exact HB.out | apply below_alloc | apply pw_below_drewN | apply below_drew1) | exact HB.out)⟩⟩
     case round =>
      clear H'
      try clear c1
      try clear p2
      try clear q2
      try clear hx2
      try clear c3
      try clear c3b0
      try clear c4
      try clear c5
      try clear c5b0
      try clear c6
      try clear c6b0
      try clear p6
      try clear c9
      try clear c10
      try clear hx206_0
      try clear p2
      try clear p206
      try clear q206
      obtain ⟨x10_2, x11_2, rfl, HA, HK2, HO_5, HO_10, HB⟩ := hrel
      cases gk with
      | zero => exact absurd HA.out (by simp [marquetryref11_Told.l1])
      | succ k2 =>
       have H := HA.out
       clear HA
       simp only [marquetryref11_Told.l1] at H
       have HC18 := Aside0.mk H
       clear H
       go_upto_region 12 with (fail)
       go_cut [58] (fun v58 wc => ∃ (kq : Nat) (x58_17 : Bool), v58 = .bool x58_17 ∧ Aside0 (marquetryref11_Told.j2 kq a0 l1 x5_1 x6_1 t220 x10_2 x11_2 x58_17 = some r) ∧ Aside0 (kq ≤ k2) ∧ Aside0 (Kd.R (Kd.int .u8) 5 wc w.heap.size (fun _ => True) u5 x5_1) ∧ Aside0 (Kd.R (Kd.int .u64) 61 wc w.heap.size (fun _ => True) u10 x10_2) ∧ Aside0 (Below w.heap.size w wc))
       case first =>
        have H := HC18.out
        clear HC18
        by_cases c19 : x11_2 < t220
        ·rw [if_pos c19] at H
         have c19b0 : decide (x11_2 < t220) = true := decide_eq_true c19
         clear c19
         (first | rw [c19b0] | (simp only [i64_w, i32_w]; rw [c19b0]) | skip)
         have H' := Aside0.mk H
         clear H
         go_wp2
         go_meet
         case rel => exact ⟨_, (true), (by first | rfl | (simp; done) | (simp [*]; done)), H', ⟨by have := HK1.out; have := HK2.out; first | omega | exact Nat.le_refl _⟩, ⟨by (with_reducible repeat (first | apply Kd.R_alloc | apply Kd.R_drewN | apply Kd.R_drew)); exact HO_5.out⟩, ⟨by (with_reducible repeat (first | apply Kd.R_alloc | apply Kd.R_drewN | apply Kd.R_drew)); exact HO_10.out⟩, ⟨by repeat (first | (with_reducible first | exact HB.out | apply below_alloc | apply pw_below_drewN | apply below_drew1) | exact HB.out)⟩⟩
        ·rw [if_neg c19] at H
         have c19b0 : decide (x11_2 < t220) = false := decide_eq_false c19
         clear c19
         (first | rw [c19b0] | (simp only [i64_w, i32_w]; rw [c19b0]) | skip)
         have H' := Aside0.mk H
         clear H
         obtain ⟨Ao20, co20, eo20⟩ := Kd.R_slice HO_10.out
         subst eo20
         go_wp2
         go_meet
         case rel => exact ⟨_, ((((x10_2.length : Int) % 8) != 0)), (by first | rfl | (simp; done) | (simp [*]; done)), H', ⟨by have := HK1.out; have := HK2.out; first | omega | exact Nat.le_refl _⟩, ⟨by (with_reducible repeat (first | apply Kd.R_alloc | apply Kd.R_drewN | apply Kd.R_drew)); exact HO_5.out⟩, ⟨by (with_reducible repeat (first | apply Kd.R_alloc | apply Kd.R_drewN | apply Kd.R_drew)); exact HO_10.out⟩, ⟨by repeat (first | (with_reducible first | exact HB.out | apply below_alloc | apply pw_below_drewN | apply below_drew1) | exact HB.out)⟩⟩
       case rest =>
        clear HC18
        try clear c1
        try clear p2
        try clear q2
        try clear hx2
        try clear c3
        try clear c3b0
        try clear c4
        try clear c5
        try clear c5b0
        try clear c6
        try clear c6b0
        try clear p6
        try clear c9
        try clear c10
        try clear c19
        try clear c19b0
        try clear p20
        try clear q20
        try clear hx20
        try clear hx206_0
        try clear p2
        try clear p206
        try clear p6
        try clear q2
        try clear q206
        obtain ⟨kq, x58_17, rfl, HA, HJ17, HO_5, HO_10, HB⟩ := hcut
        cases kq with
        | zero => exact absurd HA.out (by simp [marquetryref11_Told.j2])
        | succ kj17 =>
         have H := HA.out
         clear HA
         simp only [marquetryref11_Told.j2] at H
         by_cases c21 : x58_17 = true
         ·subst c21
          have H1 : (if x11_2 < t220 then (if 0 ≤ (wrap64 (x6_1 + x11_2)) then (if (wrap64 (x6_1 + x11_2)) < (l1.length : Int) then (if x10_2.length < 17592186044416 then (marquetryref11_Told.l1 kj17 a0 l1 x5_1 x6_1 t220 (x10_2 ++ [IntKind.u64.wrap (rd l1 (wrap64 (x6_1 + x11_2)))]) (wrap64 (x11_2 + 1))) else (none)) else (none)) else (none)) else (if x10_2.length < 17592186044416 then (marquetryref11_Told.l1 kj17 a0 l1 x5_1 x6_1 t220 (x10_2 ++ [0]) (wrap64 (x11_2 + 1))) else (none))) = some r := by rw [if_pos rfl] at H; exact H
          clear H
          have H := H1
          clear H1
          by_cases c22 : x11_2 < t220
          ·rw [if_pos c22] at H
           have c22b0 : decide (x11_2 < t220) = true := decide_eq_true c22
           clear c22
           obtain ⟨ji23, hji23⟩ : ∃ j_ : Int, (wrap64 (x6_1 + x11_2)) = j_ := ⟨_, rfl⟩
           replace H : (if 0 ≤ (ji23) then (if (ji23) < (l1.length : Int) then (if x10_2.length < 17592186044416 then (marquetryref11_Told.l1 kj17 a0 l1 x5_1 x6_1 t220 (x10_2 ++ [IntKind.u64.wrap (rd l1 (ji23))]) (wrap64 (x11_2 + 1))) else (none)) else (none)) else (none)) = some r := by first | (rw [hji23] at H; exact H) | (simp only [hji23] at H ⊢; exact H)
           have hji23w : (IntKind.i64.wrap (x6_1 + x11_2)) = ji23 := (i64_w _).trans hji23
           by_cases c24 : 0 ≤ (ji23)
           ·rw [if_pos c24] at H
            have c24b0 : decide (0 ≤ (ji23)) = true := decide_eq_true c24
            clear c24
            by_cases c25 : (ji23) < (l1.length : Int)
            ·rw [if_pos c25] at H
             have c25b0 : decide ((ji23) < (l1.length : Int)) = true := decide_eq_true c25
             clear c25
             by_cases c26 : x10_2.length < 17592186044416
             ·rw [if_pos c26] at H
              have LMc26 := Aside0.mk c26
              clear c26
              obtain ⟨y222, hy222⟩ : ∃ y_ : List Int, y_ = (x10_2 ++ [IntKind.u64.wrap (rd l1 (ji23))]) := ⟨_, rfl⟩
              replace H : (marquetryref11_Told.l1 kj17 a0 l1 x5_1 x6_1 t220 y222 (wrap64 (x11_2 + 1))) = some r := by first | (rw [hy222]; with_reducible exact H) | (have H2_ := (Option.bind_some _ _).symm.trans H; rw [hy222]; with_reducible exact H2_) | (have H2_ := (Option.bind_some _ _).symm.trans H; with_reducible exact H2_) | with_reducible exact H | (rw [hy222]; exact H) | exact H
              have Ny222 := Aside0.mk hy222
              clear hy222
              have H' := Aside0.mk H
              clear H
              have p221 : 0 ≤ ((ji23) : Int) := of_decide_eq_true (by first | (with_reducible assumption) | assumption)
              have q221 : (ji23) < (l1.length : Int) := of_decide_eq_true (by first | (with_reducible assumption) | assumption)
              obtain ⟨ad221, e221, hx221_0⟩ := Kd.at_int HR1.out (ji23) p221 q221
              cases e221
              replace hx221_0 := (HB.out.cell (World.block_lt_of_cell? w _ hx221_0)).trans hx221_0
              replace p221 := eq_true p221
              replace q221 := eq_true q221
              go_wp2_with (first | ((with_reducible refine gate_builtin (b := .append) (xs := #[.tmp 70, .tmp 73]) rfl ?_); (try (refine gate_guard (by rfl) ?_; dsimp only)); at_builtin; refine Kd.R_append (Kd.int .u64) (w0 := w) w.heap.size rfl (.tmp 70) (.tmp 73) 65 61 (.int .u64 0) 8 rfl Try.underlying65 info61 rfl (by decide) (by omega) u10 x10_2 (IntKind.u64.wrap (rd l1 (ji23))) [.int .u64 (IntKind.u64.wrap (rd l1 (ji23)))] (fun _ => True) (fun _ => False) rfl rfl ?aP (fun _ hk => hk.elim) ?aF ?aO ?aB ?aS ?aL ?_; (case aP => exact rfl); (case aB => exact (by repeat (first | (with_reducible first | exact HB.out | apply below_alloc | apply pw_below_drewN | apply below_drew1) | exact HB.out))); (case aF => exact (fun _ _ => trivial)); (case aO => exact (by (with_reducible repeat (first | apply Kd.R_alloc | apply Kd.R_drewN | apply Kd.R_drew)); exact HO_10.out)); (case aS => exact (below_size (by repeat (first | (with_reducible first | exact HB.out | apply below_alloc | apply pw_below_drewN | apply below_drew1) | exact HB.out)))); (case aL => have := LMc26.out; omega); intro v223 w27 ho hb hg hat; rw [← Ny222.out] at ho; have n0_ := Aside0.mk (Kd.R_over' (by (with_reducible repeat (first | apply Kd.R_alloc | apply Kd.R_drewN | apply Kd.R_drew)); exact HO_5.out) (Kd.R_typed (by (with_reducible repeat (first | apply Kd.R_alloc | apply Kd.R_drewN | apply Kd.R_drew)); exact HO_10.out)) (by decide) hg); have n1_ := Aside0.mk (hb); have n2_ := Aside0.mk (ho); clear HO_5; clear HB; clear HO_10; have HO_5 := n0_; have HB := n1_; have HO224 := n2_; clear n0_ n1_ n2_; clear ho hb hg hat))
              go_roundg kj17
              case measure => have := HK1.out; have := HK2.out; have := HJ17.out; omega
              case rel => exact ⟨(y222), (wrap64 (x11_2 + 1)), (by first | rfl | (simp; done) | (simp [*]; done)), H', ⟨by have := HK1.out; have := HK2.out; have := HJ17.out; omega⟩, ⟨by (with_reducible repeat (first | apply Kd.R_alloc | apply Kd.R_drewN | apply Kd.R_drew)); exact HO_5.out⟩, ⟨by (with_reducible repeat (first | apply Kd.R_alloc | apply Kd.R_drewN | apply Kd.R_drew)); exact HO224.out⟩, ⟨by repeat (first | (with_reducible first | exact HB.out | apply below_alloc | apply pw_below_drewN | apply below_drew1) | exact HB.out)⟩⟩
             ·rw [if_neg c26] at H
              exact absurd H (by simp)
            ·rw [if_neg c25] at H
             exact absurd H (by simp)
           ·rw [if_neg c24] at H
            exact absurd H (by simp)
          ·rw [if_neg c22] at H
           have c22b0 : decide (x11_2 < t220) = false := decide_eq_false c22
           clear c22
           by_cases c28 : x10_2.length < 17592186044416
           ·rw [if_pos c28] at H
            have LMc28 := Aside0.mk c28
            clear c28
            obtain ⟨y225, hy225⟩ : ∃ y_ : List Int, y_ = (x10_2 ++ [0]) := ⟨_, rfl⟩
            replace H : (marquetryref11_Told.l1 kj17 a0 l1 x5_1 x6_1 t220 y225 (wrap64 (x11_2 + 1))) = some r := by first | (rw [hy225]; with_reducible exact H) | (have H2_ := (Option.bind_some _ _).symm.trans H; rw [hy225]; with_reducible exact H2_) | (have H2_ := (Option.bind_some _ _).symm.trans H; with_reducible exact H2_) | with_reducible exact H | (rw [hy225]; exact H) | exact H
            have Ny225 := Aside0.mk hy225
            clear hy225
            have H' := Aside0.mk H
            clear H
            go_wp2_with (first | ((with_reducible refine gate_builtin (b := .append) (xs := #[.tmp 70, .tmp 73]) rfl ?_); (try (refine gate_guard (by rfl) ?_; dsimp only)); at_builtin; refine Kd.R_append (Kd.int .u64) (w0 := w) w.heap.size rfl (.tmp 70) (.tmp 73) 65 61 (.int .u64 0) 8 rfl Try.underlying65 info61 rfl (by decide) (by omega) u10 x10_2 0 [.int .u64 0] (fun _ => True) (fun _ => False) rfl rfl ?aP (fun _ hk => hk.elim) ?aF ?aO ?aB ?aS ?aL ?_; (case aP => exact rfl); (case aB => exact (by repeat (first | (with_reducible first | exact HB.out | apply below_alloc | apply pw_below_drewN | apply below_drew1) | exact HB.out))); (case aF => exact (fun _ _ => trivial)); (case aO => exact (by (with_reducible repeat (first | apply Kd.R_alloc | apply Kd.R_drewN | apply Kd.R_drew)); exact HO_10.out)); (case aS => exact (below_size (by repeat (first | (with_reducible first | exact HB.out | apply below_alloc | apply pw_below_drewN | apply below_drew1) | exact HB.out)))); (case aL => have := LMc28.out; omega); intro v226 w29 ho hb hg hat; rw [← Ny225.out] at ho; have n0_ := Aside0.mk (Kd.R_over' (by (with_reducible repeat (first | apply Kd.R_alloc | apply Kd.R_drewN | apply Kd.R_drew)); exact HO_5.out) (Kd.R_typed (by (with_reducible repeat (first | apply Kd.R_alloc | apply Kd.R_drewN | apply Kd.R_drew)); exact HO_10.out)) (by decide) hg); have n1_ := Aside0.mk (hb); have n2_ := Aside0.mk (ho); clear HO_5; clear HB; clear HO_10; have HO_5 := n0_; have HB := n1_; have HO227 := n2_; clear n0_ n1_ n2_; clear ho hb hg hat))
            go_roundg kj17
            case measure => have := HK1.out; have := HK2.out; have := HJ17.out; omega
            case rel => exact ⟨(y225), (wrap64 (x11_2 + 1)), (by first | rfl | (simp; done) | (simp [*]; done)), H', ⟨by have := HK1.out; have := HK2.out; have := HJ17.out; omega⟩, ⟨by (with_reducible repeat (first | apply Kd.R_alloc | apply Kd.R_drewN | apply Kd.R_drew)); exact HO_5.out⟩, ⟨by (with_reducible repeat (first | apply Kd.R_alloc | apply Kd.R_drewN | apply Kd.R_drew)); exact HO227.out⟩, ⟨by repeat (first | (with_reducible first | exact HB.out | apply below_alloc | apply pw_below_drewN | apply below_drew1) | exact HB.out)⟩⟩
           ·rw [if_neg c28] at H
            exact absurd H (by simp)
         ·replace c21 := Bool.eq_false_iff.mpr c21
          subst c21
          have H1 : ((marquetryref01_Pack.f kj17 a0 x10_2).bind fun bt228 => ((marquetryref01_Varint.f kj17 (IntKind.u64.wrap (wrap64 ((wrap64 (2 * (wrap64 ((x10_2.length : Int) / 8)))) + 1)))).bind fun t232 => (if x5_1.length + t232.length < 140737488355328 then ((some (x5_1 ++ t232 : List Int)).bind fun y235 => (if y235.length + bt228.1.length < 140737488355328 then (marquetryref11_Told.l0 kj17 a0 l1 (y235 ++ bt228.1) (wrap64 (x6_1 + t220))) else (none))) else (none)))) = some r := by rw [if_neg (show ¬ (false = true) by decide)] at H; exact H
          clear H
          have H := H1
          clear H1
          replace H := Option.bind_eq_some_iff.mp H
          obtain ⟨⟨t228, t229⟩, A300, H⟩ := H
          replace H : ((marquetryref01_Varint.f kj17 (IntKind.u64.wrap (wrap64 ((wrap64 (2 * (wrap64 ((x10_2.length : Int) / 8)))) + 1)))).bind fun t232 => (if x5_1.length + t232.length < 140737488355328 then ((some (x5_1 ++ t232 : List Int)).bind fun y235 => (if y235.length + t228.length < 140737488355328 then (marquetryref11_Told.l0 kj17 a0 l1 (y235 ++ t228) (wrap64 (x6_1 + t220))) else (none))) else (none))) = some r := H
          have A30 := Aside0.mk A300
          clear A300
          replace H := Option.bind_eq_some_iff.mp H
          obtain ⟨t232, A310, H⟩ := H
          replace H : (if x5_1.length + t232.length < 140737488355328 then ((some (x5_1 ++ t232 : List Int)).bind fun y235 => (if y235.length + t228.length < 140737488355328 then (marquetryref11_Told.l0 kj17 a0 l1 (y235 ++ t228) (wrap64 (x6_1 + t220))) else (none))) else (none)) = some r := H
          have A31 := Aside0.mk A310
          clear A310
          by_cases c32 : x5_1.length + t232.length < 140737488355328
          ·rw [if_pos c32] at H
           have LMc32 := Aside0.mk c32
           clear c32
           obtain ⟨y235, hy235⟩ : ∃ y_ : List Int, y_ = (x5_1 ++ t232) := ⟨_, rfl⟩
           replace H : (if y235.length + t228.length < 140737488355328 then (marquetryref11_Told.l0 kj17 a0 l1 (y235 ++ t228) (wrap64 (x6_1 + t220))) else (none)) = some r := by first | (rw [hy235]; with_reducible exact H) | (have H2_ := (Option.bind_some _ _).symm.trans H; rw [hy235]; with_reducible exact H2_) | (have H2_ := (Option.bind_some _ _).symm.trans H; with_reducible exact H2_) | with_reducible exact H | (rw [hy235]; exact H) | exact H
           have Ny235 := Aside0.mk hy235
           clear hy235
           by_cases c33 : y235.length + t228.length < 140737488355328
           ·rw [if_pos c33] at H
            have LMc33 := Aside0.mk c33
            clear c33
            obtain ⟨y238, hy238⟩ : ∃ y_ : List Int, y_ = (y235 ++ t228) := ⟨_, rfl⟩
            replace H : (marquetryref11_Told.l0 kj17 a0 l1 y238 (wrap64 (x6_1 + t220))) = some r := by first | (rw [hy238]; with_reducible exact H) | (have H2_ := (Option.bind_some _ _).symm.trans H; rw [hy238]; with_reducible exact H2_) | (have H2_ := (Option.bind_some _ _).symm.trans H; with_reducible exact H2_) | with_reducible exact H | (rw [hy238]; exact H) | exact H
            have Ny238 := Aside0.mk hy238
            clear hy238
            have H' := Aside0.mk H
            clear H
            obtain ⟨Ao34, co34, eo34⟩ := Kd.R_slice HO_10.out
            subst eo34
            go_wp2_with (first | ((with_reducible refine gate_callee (f := 60) rfl ?_); refine goesL_ (some 78) rfl rfl Try.func60 (by kernel_rfl) rfl #[.int .i64 a0, .slice Ao34 x10_2.length co34] rfl (by (try simp only [List.map_toArray, List.map_cons, List.map_nil]); first | done | rfl | (simp only [List.length_drop, List.length_take]; rfl)) ?_; (with_reducible refine (marquetryref01_Pack.calls kj17 a0 _ _ x10_2 t228 t229 _ ?side1 ?side2 A30.out).mono ?_); (case side1 => repeat (first | exact (Kd.R_reads' HO_10.out).2.2 | (with_reducible refine Kd.C_alloc ?_ _) | (with_reducible refine Kd.C_drewN ?_ _) | (with_reducible refine Kd.C_drew ?_))); (case side2 => exact (Kd.R_reads' HO_10.out).2.1); rintro e w35 ⟨v230, rfl, ho0, hb⟩; refine ⟨_, rfl, ?_⟩; have n0_ := Aside0.mk (Kd.R_elder' (by (with_reducible repeat (first | apply Kd.R_alloc | apply Kd.R_drewN | apply Kd.R_drew)); exact HO_5.out) (Kd.R_base ho0) hb); have n1_ := Aside0.mk (Kd.R_below (by (with_reducible repeat (first | apply Kd.R_alloc | apply Kd.R_drewN | apply Kd.R_drew)); exact HO_10.out) hb); have n2_ := Aside0.mk (Kd.R_lower (Kd.R_new' ho0 (Kd.R_lt (by (with_reducible repeat (first | apply Kd.R_alloc | apply Kd.R_drewN | apply Kd.R_drew)); exact HO_5.out))) (below_size (by repeat (first | (with_reducible first | exact HB.out | apply below_alloc | apply pw_below_drewN | apply below_drew1) | exact HB.out)))); have n3_ := Aside0.mk (below_step (by repeat (first | (with_reducible first | exact HB.out | apply below_alloc | apply pw_below_drewN | apply below_drew1) | exact HB.out)) hb); clear HO_5; clear HO_10; clear HB; have HO_5 := n0_; have HO_10 := n1_; have HO231 := n2_; have HB := n3_; clear n0_ n1_ n2_ n3_; (try clear hb); (try clear hb2); (try clear hk); (try clear hi); (try clear ho0)) | ((with_reducible refine gate_callee (f := 58) rfl ?_); refine goesL_ (some 88) rfl rfl Try.func58 (by kernel_rfl) rfl #[.int .u64 (IntKind.u64.wrap (wrap64 ((wrap64 (2 * (wrap64 ((x10_2.length : Int) / 8)))) + 1)))] rfl (by (try simp only [List.map_toArray, List.map_cons, List.map_nil]); first | done | rfl | (simp only [List.length_drop, List.length_take]; rfl)) ?_; (with_reducible refine (marquetryref01_Varint.calls kj17 (IntKind.u64.wrap (wrap64 ((wrap64 (2 * (wrap64 ((x10_2.length : Int) / 8)))) + 1))) t232 _ A31.out).mono ?_); rintro e w36 ⟨v233, rfl, ho0, hb⟩; refine ⟨_, rfl, ?_⟩; have n0_ := Aside0.mk (Kd.R_elder' (by (with_reducible repeat (first | apply Kd.R_alloc | apply Kd.R_drewN | apply Kd.R_drew)); exact HO_5.out) (Kd.R_base ho0) hb); have n1_ := Aside0.mk (Kd.R_below (by (with_reducible repeat (first | apply Kd.R_alloc | apply Kd.R_drewN | apply Kd.R_drew)); exact HO_10.out) hb); have n2_ := Aside0.mk (Kd.R_elder' (by (with_reducible repeat (first | apply Kd.R_alloc | apply Kd.R_drewN | apply Kd.R_drew)); exact HO231.out) (Kd.R_base ho0) hb); have n3_ := Aside0.mk (Kd.R_lower (Kd.R_new' (Kd.R_new' ho0 (Kd.R_lt (by (with_reducible repeat (first | apply Kd.R_alloc | apply Kd.R_drewN | apply Kd.R_drew)); exact HO_5.out))) (Kd.R_lt (by (with_reducible repeat (first | apply Kd.R_alloc | apply Kd.R_drewN | apply Kd.R_drew)); exact HO231.out))) (below_size (by repeat (first | (with_reducible first | exact HB.out | apply below_alloc | apply pw_below_drewN | apply below_drew1) | exact HB.out)))); have n4_ := Aside0.mk (below_step (by repeat (first | (with_reducible first | exact HB.out | apply below_alloc | apply pw_below_drewN | apply below_drew1) | exact HB.out)) hb); clear HO_5; clear HO_10; clear HO231; clear HB; have HO_5 := n0_; have HO_10 := n1_; have HO231 := n2_; have HO234 := n3_; have HB := n4_; clear n0_ n1_ n2_ n3_ n4_; (try clear hb); (try clear hb2); (try clear hk); (try clear hi); (try clear ho0); obtain ⟨Ao38, co38, eo38⟩ := Kd.R_slice HO234.out; subst eo38) | ((with_reducible refine gate_builtin (b := .append) (xs := #[.tmp 81, .tmp 88]) rfl ?_); (try (refine gate_guard (by rfl) ?_; dsimp only)); at_builtin; refine Kd.R_append_rows (Kd.int .u8) (w0 := w) w.heap.size rfl (.tmp 81) (.tmp 88) 37 5 (.int .u8 0) 1 rfl Try.underlying37 info5 rfl (by decide) (by omega) u5 x5_1 t232 _ _ _ (fun k_ => some k_ ≠ (v230 : Value).ownBlock ∧ some k_ ≠ (.slice Ao38 t232.length co38 : Value).ownBlock) (fun _ => False) rfl rfl ?aO ?aR (fun _ _ h => h) (fun _ h => h.elim) ?aF ?aB ?aS ?aL ?_; (case aR => repeat (first | exact (Kd.R_reads' HO234.out).2.2 | (with_reducible refine Kd.C_alloc ?_ _) | (with_reducible refine Kd.C_drewN ?_ _) | (with_reducible refine Kd.C_drew ?_))); (case aB => exact (by repeat (first | (with_reducible first | exact HB.out | apply below_alloc | apply pw_below_drewN | apply below_drew1) | exact HB.out))); (case aF => exact (fun k_ hk => ⟨Kd.fresh' (Kd.R_lt (by (with_reducible repeat (first | apply Kd.R_alloc | apply Kd.R_drewN | apply Kd.R_drew)); exact HO231.out)) k_ hk, Kd.fresh' (Kd.R_lt (by (with_reducible repeat (first | apply Kd.R_alloc | apply Kd.R_drewN | apply Kd.R_drew)); exact HO234.out)) k_ hk⟩)); (case aO => exact (by (with_reducible repeat (first | apply Kd.R_alloc | apply Kd.R_drewN | apply Kd.R_drew)); exact Kd.R_mono HO_5.out (fun _ hk => ⟨hk.1.2, hk.2⟩))); (case aS => exact (below_size (by repeat (first | (with_reducible first | exact HB.out | apply below_alloc | apply pw_below_drewN | apply below_drew1) | exact HB.out)))); (case aL => have := LMc32.out; omega); intro v236 w37 ho hb hg hat; rw [← Ny235.out] at ho; have n0_ := Aside0.mk (Kd.R_over' (by (with_reducible repeat (first | apply Kd.R_alloc | apply Kd.R_drewN | apply Kd.R_drew)); exact HO_10.out) (Kd.R_typed (by (with_reducible repeat (first | apply Kd.R_alloc | apply Kd.R_drewN | apply Kd.R_drew)); exact HO_5.out)) (by decide) hg); have n1_ := Aside0.mk (Kd.R_after (ok := (fun k_ => some k_ ≠ (.slice Ao38 t232.length co38 : Value).ownBlock)) (by (with_reducible repeat (first | apply Kd.R_alloc | apply Kd.R_drewN | apply Kd.R_drew)); exact Kd.R_mono HO231.out (fun _ hk => ⟨hk.2, hk.1.2⟩)) hg hat); have n2_ := Aside0.mk (Kd.R_after (ok := (fun k_ => some k_ ≠ (v230 : Value).ownBlock)) (by (with_reducible repeat (first | apply Kd.R_alloc | apply Kd.R_drewN | apply Kd.R_drew)); exact Kd.R_mono HO234.out (fun _ hk => ⟨hk.2, hk.1.2⟩)) hg hat); have n3_ := Aside0.mk (hb); have n4_ := Aside0.mk (ho); clear HO_10; clear HO231; clear HO234; clear HB; clear HO_5; have HO_10 := n0_; have HO231 := n1_; have HO234 := n2_; have HB := n3_; have HO237 := n4_; clear n0_ n1_ n2_ n3_ n4_; clear ho hb hg hat; obtain ⟨Ao40, co40, eo40⟩ := Kd.R_slice HO231.out; subst eo40) | ((with_reducible refine gate_builtin (b := .append) (xs := #[.tmp 89, .tmp 90]) rfl ?_); (try (refine gate_guard (by rfl) ?_; dsimp only)); at_builtin; refine Kd.R_append_rows (Kd.int .u8) (w0 := w) w.heap.size rfl (.tmp 89) (.tmp 90) 37 5 (.int .u8 0) 1 rfl Try.underlying37 info5 rfl (by decide) (by omega) v236 y235 t228 _ _ _ (fun k_ => some k_ ≠ (.slice Ao40 t228.length co40 : Value).ownBlock ∧ some k_ ≠ (.slice Ao38 t232.length co38 : Value).ownBlock) (fun _ => False) rfl rfl ?aO ?aR (fun _ _ h => h) (fun _ h => h.elim) ?aF ?aB ?aS ?aL ?_; (case aR => repeat (first | exact (Kd.R_reads' HO231.out).2.2 | (with_reducible refine Kd.C_alloc ?_ _) | (with_reducible refine Kd.C_drewN ?_ _) | (with_reducible refine Kd.C_drew ?_))); (case aB => exact (by repeat (first | (with_reducible first | exact HB.out | apply below_alloc | apply pw_below_drewN | apply below_drew1) | exact HB.out))); (case aF => exact (fun k_ hk => ⟨Kd.fresh' (Kd.R_lt (by (with_reducible repeat (first | apply Kd.R_alloc | apply Kd.R_drewN | apply Kd.R_drew)); exact HO231.out)) k_ hk, Kd.fresh' (Kd.R_lt (by (with_reducible repeat (first | apply Kd.R_alloc | apply Kd.R_drewN | apply Kd.R_drew)); exact HO234.out)) k_ hk⟩)); (case aO => exact (by (with_reducible repeat (first | apply Kd.R_alloc | apply Kd.R_drewN | apply Kd.R_drew)); exact HO237.out)); (case aS => exact (below_size (by repeat (first | (with_reducible first | exact HB.out | apply below_alloc | apply pw_below_drewN | apply below_drew1) | exact HB.out)))); (case aL => have := LMc33.out; omega); intro v239 w39 ho hb hg hat; rw [← Ny238.out] at ho; have n0_ := Aside0.mk (Kd.R_over' (by (with_reducible repeat (first | apply Kd.R_alloc | apply Kd.R_drewN | apply Kd.R_drew)); exact HO_10.out) (Kd.R_typed (by (with_reducible repeat (first | apply Kd.R_alloc | apply Kd.R_drewN | apply Kd.R_drew)); exact HO237.out)) (by decide) hg); have n1_ := Aside0.mk (Kd.R_after (ok := (fun k_ => some k_ ≠ (.slice Ao38 t232.length co38 : Value).ownBlock)) (by (with_reducible repeat (first | apply Kd.R_alloc | apply Kd.R_drewN | apply Kd.R_drew)); exact HO231.out) hg hat); have n2_ := Aside0.mk (Kd.R_after (ok := (fun k_ => some k_ ≠ (.slice Ao40 t228.length co40 : Value).ownBlock)) (by (with_reducible repeat (first | apply Kd.R_alloc | apply Kd.R_drewN | apply Kd.R_drew)); exact HO234.out) hg hat); have n3_ := Aside0.mk (hb); have n4_ := Aside0.mk (ho); clear HO_10; clear HO231; clear HO234; clear HB; clear HO237; have HO_10 := n0_; have HO231 := n1_; have HO234 := n2_; have HB := n3_; have HO240 := n4_; clear n0_ n1_ n2_ n3_ n4_; clear ho hb hg hat))
            go_roundg kj17
            case measure => have := HK1.out; have := HK2.out; have := HJ17.out; omega
            case rel => exact ⟨(y238), (wrap64 (x6_1 + t220)), (by first | rfl | (simp; done) | (simp [*]; done)), H', ⟨by have := HK1.out; have := HK2.out; have := HJ17.out; omega⟩, ⟨by (with_reducible repeat (first | apply Kd.R_alloc | apply Kd.R_drewN | apply Kd.R_drew)); exact Kd.R_mono HO240.out (fun _ hk => trivial)⟩, ⟨by repeat (first | (with_reducible first | exact HB.out | apply below_alloc | apply pw_below_drewN | apply below_drew1) | exact HB.out)⟩⟩
           ·rw [if_neg c33] at H
            exact absurd H (by simp)
          ·rw [if_neg c32] at H
           exact absurd H (by simp)
   ·rw [if_neg c3] at H
    have c3b0 : decide (x6_1 < (l1.length : Int)) = false := decide_eq_false c3
    clear c3
    obtain rfl := Option.some.inj H
    go_wp2
    go_ret
    exact ⟨_, by first | rfl | (simp [errW_none, errW_some] <;> rfl) | (simp [*, errW_none, errW_some] <;> rfl), by (with_reducible repeat (first | apply Kd.R_alloc | apply Kd.R_drewN | apply Kd.R_drew)); exact HO_5.out, by repeat (first | (with_reducible first | exact HB.out | apply below_alloc | apply pw_below_drewN | apply below_drew1) | exact HB.out)⟩

end Go.Proofs.Ytpibhiacmceekaa.X

namespace Go.Proofs.Ytpibhiacmceekaa.Bx
open Go.RowKit

theorem u64w (n : Int) : IntKind.u64.wrap n = n % 18446744073709551616 := IntKind.wrap_u64 n
theorem toNat64 (x : Int) : ((BitVec.ofInt 64 x).toNat : Int) = x % 18446744073709551616 := by
  rw [BitVec.toNat_ofInt]; omega
theorem xor_zero_u64 (x : Int) : bits .xor .u64 x 0 = x % 18446744073709551616 := by
  show IntKind.u64.wrap ((BitVec.ofInt 64 x ^^^ BitVec.ofInt 64 0).toNat : Int) = _
  have : BitVec.ofInt 64 0 = 0#64 := rfl
  rw [this, BitVec.xor_zero, toNat64, u64w]; omega
theorem xor_ones_u64 (x : Int) : bits .xor .u64 x 18446744073709551615 = 18446744073709551615 - x % 18446744073709551616 := by
  show IntKind.u64.wrap ((BitVec.ofInt 64 x ^^^ BitVec.ofInt 64 18446744073709551615).toNat : Int) = _
  have e : BitVec.ofInt 64 18446744073709551615 = BitVec.allOnes 64 := by decide
  rw [e, BitVec.xor_allOnes, BitVec.toNat_not, u64w]
  have h := toNat64 x
  have hl := (BitVec.ofInt 64 x).isLt
  omega
theorem xor_zero_i64 (x : Int) : bits .xor .i64 x 0 = wrap64 x := by
  show IntKind.i64.wrap ((BitVec.ofInt 64 x ^^^ BitVec.ofInt 64 0).toNat : Int) = _
  have : BitVec.ofInt 64 0 = 0#64 := rfl
  rw [this, BitVec.xor_zero, toNat64, IntKind.wrap_i64]; unfold wrap64; omega
theorem xor_ones_i64 (x : Int) : bits .xor .i64 x (-1) = wrap64 (-1 - x) := by
  show IntKind.i64.wrap ((BitVec.ofInt 64 x ^^^ BitVec.ofInt 64 (-1)).toNat : Int) = _
  have e : BitVec.ofInt 64 (-1) = BitVec.allOnes 64 := by decide
  rw [e, BitVec.xor_allOnes, BitVec.toNat_not, IntKind.wrap_i64]
  have h := toNat64 x
  have hl := (BitVec.ofInt 64 x).isLt
  unfold wrap64
  omega
theorem wraps_u64 (n : Int) (h₀ : 0 ≤ n) (h₁ : n < 2 ^ 64) : IntKind.u64.wrap n = n := by rw [u64w]; omega
theorem and_one_u64 (x : Int) (h0 : 0 ≤ x) (h1 : x ≤ 18446744073709551615) : bits .and .u64 x 1 = x % 2 :=
  bits_mask .u64 64 (by decide) wraps_u64 1 (by decide) x h0 (by omega)
theorem and_127_u64 (x : Int) (h0 : 0 ≤ x) (h1 : x ≤ 18446744073709551615) : bits .and .u64 x 127 = x % 128 :=
  bits_mask .u64 64 (by decide) wraps_u64 7 (by decide) x h0 (by omega)
/-- `x | 128` below 128 adds. -/
theorem or_128_u64 (x : Int) (h0 : 0 ≤ x) (h1 : x < 128) : bits .or .u64 x 128 = x + 128 := by
  have := bits_join .u64 64 (by decide) wraps_u64 7 128 x (by decide) (by decide) (by decide) h0 (by omega) (by omega)
  obtain ⟨a, rfl⟩ := Int.eq_ofNat_of_zero_le h0
  have c := (bits_nat .u64 64 (by decide) wraps_u64 a 128 (by omega) (by decide)).2
  have d := (bits_nat .u64 64 (by decide) wraps_u64 128 a (by decide) (by omega)).2
  rw [Nat.or_comm] at c
  have : bits .or .u64 (a : Int) 128 = bits .or .u64 128 (a : Int) := c.trans d.symm
  omega

theorem wf_u64 {a : Int} (h : (Lit.int .u64 a).wf = true) : 0 ≤ a ∧ a ≤ 18446744073709551615 := by
  simp [Lit.wf, IntKind.min, IntKind.max, IntKind.signed, IntKind.bits] at h; omega
theorem wf_i64 {a : Int} (h : (Lit.int .i64 a).wf = true) : -9223372036854775808 ≤ a ∧ a ≤ 9223372036854775807 := by
  simp [Lit.wf, IntKind.min, IntKind.max, IntKind.signed, IntKind.bits] at h; omega
theorem wf_u8 {a : Int} (h : (Lit.int .u8 a).wf = true) : 0 ≤ a ∧ a ≤ 255 := by
  simp [Lit.wf, IntKind.min, IntKind.max, IntKind.signed, IntKind.bits] at h; omega
theorem wf_i32 {a : Int} (h : (Lit.int .i32 a).wf = true) : -2147483648 ≤ a ∧ a ≤ 2147483647 := by
  simp [Lit.wf, IntKind.min, IntKind.max, IntKind.signed, IntKind.bits] at h; omega
theorem w64 {a : Int} (h : -9223372036854775808 ≤ a) (h' : a ≤ 9223372036854775807) : wrap64 a = a := by unfold wrap64; omega

theorem u64_tdiv {x : Int} (y : Int) (hx : 0 ≤ x) (h1 : x ≤ 18446744073709551615) (hy : 1 ≤ y) : IntKind.u64.wrap (x.tdiv y) = x / y := IntWalk.u64_quo x y ⟨hx, h1, hy⟩
end Go.Proofs.Ytpibhiacmceekaa.Bx

namespace Go.Proofs.Ytpibhiacmceekaa.Nx
open Go.RowKit Go.Proofs.Ytpibhiacmceekaa.Bx

/-- How many bits a number needs. -/
def wd (n : Nat) : Nat := if n = 0 then 0 else wd (n / 2) + 1
termination_by n
decreasing_by omega
theorem wd_zero : wd 0 = 0 := by rw [wd]; simp
theorem wd_pos {n : Nat} (h : n ≠ 0) : wd n = wd (n / 2) + 1 := by rw [wd]; simp [h]
theorem wd_le (k : Nat) : ∀ n, wd n ≤ k ↔ n < 2 ^ k := by
  induction k with
  | zero =>
    intro n
    by_cases h : n = 0
    · subst h; simp [wd_zero]
    · rw [wd_pos h]; simp; omega
  | succ k ih =>
    intro n
    by_cases h : n = 0
    · subst h; simp [wd_zero, Nat.two_pow_pos]
    · rw [wd_pos h, Nat.add_le_add_iff_right, ih, Nat.pow_succ]; omega
theorem wd_le64 (n : Nat) (h : n < 18446744073709551616) : wd n ≤ 64 := (wd_le 64 n).2 (by omega)

/-- The bytes of a number, the lowest first. -/
def leb : Nat → Int → List Int
  | 0, _ => []
  | k + 1, n => n % 256 :: leb k (n / 256)
theorem leb_length : ∀ k n, (leb k n).length = k
  | 0, _ => rfl
  | k + 1, n => by simp [leb, leb_length k]
theorem leb_range : ∀ k n, ∀ x ∈ leb k n, 0 ≤ x ∧ x ≤ 255
  | 0, _, x, h => by simp [leb] at h
  | k + 1, n, x, h => by
    simp only [leb, List.mem_cons] at h
    rcases h with rfl | h
    · omega
    · exact leb_range k _ x h
/-- The number of bytes, the lowest first. -/
def leS : List Int → Int
  | [] => 0
  | x :: l => x + 256 * leS l
theorem leS_nonneg : ∀ l : List Int, (∀ x ∈ l, 0 ≤ x ∧ x ≤ 255) → 0 ≤ leS l
  | [], _ => by simp [leS]
  | x :: l, h => by
    have := leS_nonneg l (fun y hy => h y (by simp [hy]))
    have := h x (by simp)
    simp only [leS]; omega
theorem leS_lt : ∀ l : List Int, (∀ x ∈ l, 0 ≤ x ∧ x ≤ 255) → leS l < 256 ^ l.length
  | [], _ => by simp [leS]
  | x :: l, h => by
    have := leS_lt l (fun y hy => h y (by simp [hy]))
    have := h x (by simp)
    simp only [leS, List.length_cons, Int.pow_succ]; omega
theorem leS_snoc : ∀ (l : List Int) (x : Int), leS (l ++ [x]) = leS l + 256 ^ l.length * x
  | [], x => by simp [leS]
  | y :: l, x => by
    simp only [List.cons_append, leS, leS_snoc l x, List.length_cons, Int.pow_succ]
    rw [Int.mul_add]
    have : 256 * ((256 : Int) ^ l.length * x) = 256 ^ l.length * 256 * x := by
      rw [← Int.mul_assoc, Int.mul_comm 256]
    omega
theorem leS_leb : ∀ (k : Nat) (n : Int), leS (leb k n) = n % 256 ^ k
  | 0, n => by simp [leb, leS, Int.emod_one]
  | k + 1, n => by
    simp only [leb, leS, leS_leb k]
    rw [Int.pow_succ]
    have hp : (0 : Int) < 256 ^ k := Int.pow_pos (by decide)
    generalize (256 : Int) ^ k = p at hp
    have h1 := Int.mul_ediv_add_emod n 256
    have h2 := Int.mul_ediv_add_emod (n / 256) p
    have e : n = p * 256 * (n / 256 / p) + (n % 256 + 256 * (n / 256 % p)) := by
      have : p * 256 * (n / 256 / p) = 256 * (p * (n / 256 / p)) := by rw [Int.mul_comm p 256, Int.mul_assoc]
      omega
    have r1 := Int.emod_nonneg (n / 256) (show p ≠ 0 by omega)
    have r2 := Int.emod_lt_of_pos (n / 256) hp
    have key : (n % 256 + 256 * (n / 256 % p) + p * 256 * (n / 256 / p)) % (p * 256) = n % 256 + 256 * (n / 256 % p) := by
      rw [Int.add_mul_emod_self_left]
      exact Int.emod_eq_of_lt (by omega) (by omega)
    rw [show n % 256 + 256 * (n / 256 % p) + p * 256 * (n / 256 / p) = n by omega] at key
    exact key.symm

theorem or_low_high (i : Nat) (x y : Int) (hx0 : 0 ≤ x) (hx : x < 2 ^ i) (hy0 : 0 ≤ y) (hy : y % 2 ^ i = 0) (hy1 : y < 18446744073709551616) (hx1 : x < 18446744073709551616) :
    bits .or .u64 x y = x + y := by
  have := bits_join .u64 64 (by decide) wraps_u64 i y x hy0 hy (by omega) hx0 hx (by omega)
  obtain ⟨a, rfl⟩ := Int.eq_ofNat_of_zero_le hx0
  obtain ⟨b, rfl⟩ := Int.eq_ofNat_of_zero_le hy0
  have c := (bits_nat .u64 64 (by decide) wraps_u64 a b (by omega) (by omega)).2
  have d := (bits_nat .u64 64 (by decide) wraps_u64 b a (by omega) (by omega)).2
  rw [Nat.or_comm] at c
  have : bits .or .u64 (a : Int) (b : Int) = bits .or .u64 (b : Int) (a : Int) := c.trans d.symm
  omega

/-- A list from a place on, of so many. -/
def win (l : List Int) (at_ m : Nat) : List Int := (l.drop at_).take m
theorem win_length {l : List Int} {a m : Nat} (h : a + m ≤ l.length) : (win l a m).length = m := by simp [win]; omega
theorem win_mem {l : List Int} {a m : Nat} {x : Int} (h : x ∈ win l a m) : x ∈ l := List.mem_of_mem_drop (List.mem_of_mem_take h)
theorem win_snoc {l : List Int} {a m : Nat} (h : a + m < l.length) : win l a (m + 1) = win l a m ++ [l.getD (a + m) 0] := by
  unfold win
  rw [List.take_succ_eq_append_getElem (by simp; omega)]
  simp [List.getD_eq_getElem?_getD, h]
theorem win_cons {l : List Int} {a m : Nat} (h : a < l.length) : win l a (m + 1) = l.getD a 0 :: win l (a + 1) m := by
  unfold win
  rw [List.drop_eq_getElem_cons h, List.take_succ_cons]
  simp [List.getD_eq_getElem?_getD, h]
theorem win_zero (l : List Int) (a : Nat) : win l a 0 = [] := by simp [win]
theorem win_all (l : List Int) : win l 0 l.length = l := by simp [win]
end Go.Proofs.Ytpibhiacmceekaa.Nx

namespace Go.Proofs.Ytpibhiacmceekaa.L11
set_option linter.unusedVariables false
set_option linter.unusedSimpArgs false
open Go.RowKit

theorem drop_cons {l : List Int} {i : Nat} (h : i < l.length) : l.drop i = l.getD i 0 :: l.drop (i + 1) := by
  rw [List.drop_eq_getElem_cons h, List.getD_eq_getElem?_getD, List.getElem?_eq_getElem h]; rfl
theorem w64s' {n : Nat} (h : n + 1 ≤ 1000000000) : wrap64 ((n : Int) + 1) = ((n + 1 : Nat) : Int) := by unfold wrap64; omega
theorem w64a {n m : Nat} (h : n + m ≤ 1000000000) : wrap64 ((n : Int) + (m : Int)) = ((n + m : Nat) : Int) := by unfold wrap64; omega
end Go.Proofs.Ytpibhiacmceekaa.L11

namespace Go.Proofs.Ytpibhiacmceekaa.L11
set_option linter.unusedVariables false
set_option linter.unusedSimpArgs false
open Go.RowKit Go.Proofs.Ytpibhiacmceekaa.X Go.Proofs.YtpibhiacmceekaaW.PrintWords Go.Proofs.YtpibhiacmceekaaW.PrintLast Go.Proofs.YtpibhiacmceekaaW.PrintMore Go.Proofs.Ytpibhiacmceekaa.Bx Go.Proofs.Ytpibhiacmceekaa.Nx

/-- How many at the front are x. -/
def runOf (x : Int) : List Int → Nat
  | [] => 0
  | y :: l => if y = x then runOf x l + 1 else 0
def sameN (l : List Int) : Nat := runOf (l.getD 0 0) l
theorem runOf_le (x : Int) : ∀ l, runOf x l ≤ l.length
  | [] => Nat.le_refl _
  | y :: l => by
    have := runOf_le x l
    unfold runOf; split <;> simp <;> omega
theorem same_l (l : List Int) (hl : l.length ≤ 100000000) : ∀ (d i k : Nat), i + d = l.length → d < k → hybrid_same.l0 k l (i : Int) = some (((i + runOf (l.getD 0 0) (l.drop i) : Nat)) : Int)
  | 0, i, k, hi, hk => by
    obtain ⟨k, rfl⟩ : ∃ j, k = j + 1 := ⟨k - 1, by omega⟩
    rw [List.drop_eq_nil_of_le (by omega), runOf, hybrid_same.l0]
    simp only [show ¬ ((i : Int) < (l.length : Int)) by omega, if_false, Nat.add_zero]
  | d + 1, i, k, hi, hk => by
    obtain ⟨k, rfl⟩ : ∃ j, k = j + 1 := ⟨k - 1, by omega⟩
    have hr : rd l (i : Int) = l.getD i 0 := rfl
    have hr0 : rd l 0 = l.getD 0 0 := rfl
    rw [drop_cons (by omega), runOf, hybrid_same.l0]
    rw [if_pos (by omega), if_pos (by omega), if_pos (by omega), hr, hr0]
    by_cases c : l.getD i 0 = l.getD 0 0
    · rw [if_pos c, if_pos c, w64s' (by omega), same_l l hl d (i + 1) k (by omega) (by omega)]
      congr 2; omega
    · rw [if_neg c, if_neg c, Nat.add_zero]
theorem ref_same_l (l : List Int) (hl : l.length ≤ 100000000) (at_ : Nat) (ha : at_ < l.length) : ∀ (d i k : Nat), at_ + i + d = l.length → d < k → marquetryref11_same.l0 k l (at_ : Int) (i : Int) = some (((i + runOf (l.getD at_ 0) (l.drop (at_ + i)) : Nat)) : Int)
  | 0, i, k, hi, hk => by
    obtain ⟨k, rfl⟩ : ∃ j, k = j + 1 := ⟨k - 1, by omega⟩
    rw [List.drop_eq_nil_of_le (by omega), runOf, marquetryref11_same.l0, w64a (by omega), if_neg (by omega), Nat.add_zero]
  | d + 1, i, k, hi, hk => by
    obtain ⟨k, rfl⟩ : ∃ j, k = j + 1 := ⟨k - 1, by omega⟩
    have hr : rd l ((at_ + i : Nat) : Int) = l.getD (at_ + i) 0 := rfl
    have hr0 : rd l (at_ : Int) = l.getD at_ 0 := rfl
    rw [drop_cons (by omega), runOf, marquetryref11_same.l0, w64a (by omega), if_pos (by omega), if_pos (by omega), if_pos (by omega), if_pos (by omega), hr, hr0]
    by_cases c : l.getD (at_ + i) 0 = l.getD at_ 0
    · rw [if_pos c, if_pos c, w64s' (by omega), ref_same_l l hl at_ ha d (i + 1) k (by omega) (by omega)]
      congr 2; rw [show at_ + (i + 1) = at_ + i + 1 by omega]; omega
    · rw [if_neg c, if_neg c, Nat.add_zero]
theorem same {l : List Int} {k : Nat} (hl : l.length ≤ 100000000) (hk : l.length < k) : hybrid_same.f k l = some ((sameN l : Nat) : Int) := by
  unfold hybrid_same.f
  have := same_l l hl l.length 0 k (by omega) hk
  simpa [sameN] using this
theorem getD_drop (l : List Int) (i : Nat) : (l.drop i).getD 0 0 = l.getD i 0 := by
  rw [List.getD_eq_getElem?_getD, List.getElem?_drop, Nat.add_zero, ← List.getD_eq_getElem?_getD]
theorem ref_same {l : List Int} {k at_ : Nat} (hl : l.length ≤ 100000000) (hk : l.length < k) (ha : at_ < l.length) : marquetryref11_same.f k l (at_ : Int) = some ((sameN (l.drop at_) : Nat) : Int) := by
  unfold marquetryref11_same.f
  have := ref_same_l l hl at_ ha (l.length - at_) 0 k (by omega) (by omega)
  rw [Nat.add_zero, Nat.zero_add, ← getD_drop] at this
  exact this
theorem sameN_le (l : List Int) : sameN l ≤ l.length := runOf_le _ _
theorem sameN_pos {l : List Int} (h : 0 < l.length) : 1 ≤ sameN l := by
  cases l with
  | nil => exact absurd h (by simp)
  | cons x l => simp [sameN, runOf]
/-- How many a packed run has. -/
def packsN (l : List Int) : Nat → Nat → Nat
  | 0, n => n
  | f + 1, n => if n < l.length then (if l.length ≤ n + 8 then l.length else if 8 ≤ sameN (l.drop (n + 8)) then n + 8 else packsN l f (n + 8)) else n
theorem packs_l (l : List Int) (hl : l.length ≤ 100000000) : ∀ (f n k : Nat), l.length ≤ n + f → n ≤ l.length → l.length + f + 3 < k → hybrid_packs.l0 k l (n : Int) = some ((packsN l f n : Nat) : Int)
  | 0, n, k, hf, hn, hk => by
    obtain ⟨k, rfl⟩ : ∃ j, k = j + 1 := ⟨k - 1, by omega⟩
    rw [hybrid_packs.l0, if_neg (by omega)]; rfl
  | f + 1, n, k, hf, hn, hk => by
    obtain ⟨k, rfl⟩ : ∃ j, k = j + 1 := ⟨k - 1, by omega⟩
    rw [hybrid_packs.l0, packsN]
    by_cases c : n < l.length
    · rw [if_pos (by omega), if_pos c]
      by_cases d : l.length ≤ n + 8
      · rw [if_pos d, show min ((n : Int) + 8) (l.length : Int) = (l.length : Int) by omega, show ((l.length : Int)).toNat = l.length from rfl, List.drop_eq_nil_of_le (Nat.le_refl _), same (by simp) (by simp; omega), Option.bind_some]
        rw [if_neg (by simp [sameN, runOf])]
        obtain ⟨k, rfl⟩ : ∃ j, k = j + 1 := ⟨k - 1, by omega⟩
        rw [hybrid_packs.l0, if_neg (by omega)]
      · rw [if_neg d, show min ((n : Int) + 8) (l.length : Int) = ((n + 8 : Nat) : Int) by omega, show (((n + 8 : Nat) : Int)).toNat = n + 8 from rfl, same (by rw [List.length_drop]; omega) (by rw [List.length_drop]; omega), Option.bind_some]
        by_cases e : 8 ≤ sameN (l.drop (n + 8))
        · rw [if_pos (by omega), if_pos e]
        · rw [if_neg (by omega), if_neg e]
          exact packs_l l hl f (n + 8) k (by omega) (by omega) (by omega)
    · rw [if_neg (by omega), if_neg c]
theorem packs {l : List Int} {k : Nat} (hl : l.length ≤ 100000000) (hk : 2 * l.length + 3 < k) : hybrid_packs.f k l = some ((packsN l l.length 0 : Nat) : Int) := by
  unfold hybrid_packs.f
  rw [if_pos (by omega)]
  exact packs_l l hl l.length 0 k (by omega) (by omega) (by omega)
theorem ref_packs_l (l : List Int) (hl : l.length ≤ 100000000) (at_ : Nat) (ha : at_ ≤ l.length) : ∀ (f n k : Nat), (l.drop at_).length ≤ n + f → n ≤ (l.drop at_).length → l.length + f + 3 < k → marquetryref11_packs.l0 k l (at_ : Int) (n : Int) = some ((packsN (l.drop at_) f n : Nat) : Int)
  | 0, n, k, hf, hn, hk => by
    rw [List.length_drop] at hf hn
    obtain ⟨k, rfl⟩ : ∃ j, k = j + 1 := ⟨k - 1, by omega⟩
    rw [marquetryref11_packs.l0, w64a (by omega), if_neg (by omega)]; rfl
  | f + 1, n, k, hf, hn, hk => by
    have hf' := hf
    have hn' := hn
    rw [List.length_drop] at hf hn
    obtain ⟨k, rfl⟩ : ∃ j, k = j + 1 := ⟨k - 1, by omega⟩
    have e8 : wrap64 ((n : Int) + 8) = ((n + 8 : Nat) : Int) := w64a (m := 8) (by omega)
    rw [marquetryref11_packs.l0, w64a (by omega), packsN, e8, w64a (by omega)]
    simp only [List.length_drop, List.drop_drop]
    by_cases c : n < l.length - at_
    · rw [if_pos (by omega), if_pos c]
      by_cases d : l.length - at_ ≤ n + 8
      · rw [if_pos (by omega), if_pos d]
        have : wrap64 ((l.length : Int) - (at_ : Int)) = ((l.length - at_ : Nat) : Int) := by unfold wrap64; omega
        rw [this]
      · rw [if_neg (by omega), if_neg d, ref_same hl (by omega) (by omega), Option.bind_some]
        by_cases e : 8 ≤ sameN (l.drop (at_ + (n + 8)))
        · rw [if_pos (by omega), if_pos e]
        · rw [if_neg (by omega), if_neg e]
          exact ref_packs_l l hl at_ ha f (n + 8) k (by rw [List.length_drop]; omega) (by rw [List.length_drop]; omega) (by omega)
    · rw [if_neg (by omega), if_neg c]
theorem ref_packs {l : List Int} {k at_ : Nat} (hl : l.length ≤ 100000000) (hk : 2 * l.length + 3 < k) (ha : at_ ≤ l.length) : marquetryref11_packs.f k l (at_ : Int) = some ((packsN (l.drop at_) (l.drop at_).length 0 : Nat) : Int) := by
  unfold marquetryref11_packs.f
  exact ref_packs_l l hl at_ ha (l.drop at_).length 0 k (by omega) (by omega) (by rw [List.length_drop]; omega)
end Go.Proofs.Ytpibhiacmceekaa.L11

namespace Go.Proofs.Ytpibhiacmceekaa.L11
set_option linter.unusedVariables false
set_option linter.unusedSimpArgs false
open Go.RowKit Go.Proofs.Ytpibhiacmceekaa.X Go.Proofs.YtpibhiacmceekaaW.PrintWords Go.Proofs.YtpibhiacmceekaaW.PrintLast Go.Proofs.YtpibhiacmceekaaW.PrintMore Go.Proofs.Ytpibhiacmceekaa.Bx Go.Proofs.Ytpibhiacmceekaa.Nx

/-- Filled up to M. -/
def fillN (xs : List Int) (M : Nat) : List Int := xs ++ List.replicate (M - xs.length) 0
theorem fill_step (xs : List Int) (M i : Nat) (hi : i < xs.length) (hM : xs.length ≤ M) : (fillN (xs.take i) M).set i (xs.getD i 0) = fillN (xs.take (i + 1)) M := by
  unfold fillN
  have h1 : (xs.take i).length = i := by rw [List.length_take]; omega
  have h2 : (xs.take (i + 1)).length = i + 1 := by rw [List.length_take]; omega
  rw [h1, h2, List.set_append_right _ _ (by omega), h1, Nat.sub_self, show M - i = (M - (i + 1)) + 1 by omega, List.replicate_succ, List.set_cons_zero, List.take_succ_eq_append_getElem hi, List.append_assoc, List.getD_eq_getElem?_getD, List.getElem?_eq_getElem hi]
  rfl
theorem fill_l2 (k : Nat) (W : Int) (x1 x8 xs : List Int) (x9 : Int) (M : Nat) (hM : xs.length ≤ M) (hl : xs.length ≤ 100000000) (hx : ∀ x ∈ xs, 0 ≤ x ∧ x ≤ 9223372036854775807) : ∀ (d i : Nat), i + d = xs.length →
    hybrid_Write.l2 (k + 1 + d) W x1 x8 x9 (fillN (xs.take i) M) xs (xs.length : Int) (i : Int) = hybrid_Write.l2 (k + 1) W x1 x8 x9 (fillN xs M) xs (xs.length : Int) (xs.length : Int)
  | 0, i, hi => by
    rw [Nat.add_zero] at hi ⊢
    rw [hi, List.take_length]
  | d + 1, i, hi => by
    have hli : (fillN (xs.take i) M).length = M := by unfold fillN; rw [List.length_append, List.length_replicate, List.length_take]; omega
    have hr : rd xs (i : Int) = xs.getD i 0 := rfl
    have hget : 0 ≤ xs.getD i 0 ∧ xs.getD i 0 ≤ 9223372036854775807 := by
      rw [List.getD_eq_getElem?_getD, List.getElem?_eq_getElem (by omega)]; exact hx _ (List.getElem_mem (by omega))
    have hw : IntKind.u64.wrap (xs.getD i 0) = xs.getD i 0 := by rw [u64w]; omega
    rw [show k + 1 + (d + 1) = (k + 1 + d) + 1 by omega, hybrid_Write.l2, if_pos (by omega), if_pos (by omega), if_pos (by omega), hli, if_pos (by omega), hr, hw, w64s' (by omega), show ((i : Int)).toNat = i from rfl, fill_step xs M i (by omega) hM]
    exact fill_l2 k W x1 x8 xs x9 M hM hl hx d (i + 1) (by omega)
theorem fill_length (xs : List Int) (M : Nat) (h : xs.length ≤ M) : (fillN xs M).length = M := by unfold fillN; rw [List.length_append, List.length_replicate]; omega
theorem fill_snoc_in (xs : List Int) (i : Nat) (h : i < xs.length) : fillN (xs.take i) i ++ [xs.getD i 0] = fillN (xs.take (i + 1)) (i + 1) := by
  unfold fillN
  have h1 : (xs.take i).length = i := by rw [List.length_take]; omega
  have h2 : (xs.take (i + 1)).length = i + 1 := by rw [List.length_take]; omega
  rw [h1, h2, Nat.sub_self, Nat.sub_self, List.replicate_zero, List.append_nil, List.append_nil, List.take_succ_eq_append_getElem h, List.getD_eq_getElem?_getD, List.getElem?_eq_getElem h]
  rfl
theorem fill_snoc_out (xs : List Int) (i : Nat) (h : xs.length ≤ i) : fillN (xs.take i) i ++ [0] = fillN (xs.take (i + 1)) (i + 1) := by
  unfold fillN
  rw [List.take_of_length_le h, List.take_of_length_le (by omega), List.append_assoc, show i + 1 - xs.length = (i - xs.length) + 1 by omega, List.replicate_succ']
theorem ref_fill (k : Nat) (W : Int) (l out : List Int) (at_ n : Nat) (hl : l.length ≤ 100000000) (hn : at_ + n ≤ l.length) (hx : ∀ x ∈ l, 0 ≤ x ∧ x ≤ 9223372036854775807) (M : Nat) (hM : M = (n + 7) / 8 * 8) : ∀ (d i : Nat), i + d = M →
    marquetryref11_Told.l1 (k + 2 * d) W l out (at_ : Int) (n : Int) (fillN (((l.drop at_).take n).take i) i) (i : Int) = marquetryref11_Told.l1 k W l out (at_ : Int) (n : Int) (fillN ((l.drop at_).take n) M) (M : Int)
  | 0, i, hi => by
    have : ((l.drop at_).take n).length = n := by rw [List.length_take, List.length_drop]; omega
    rw [Nat.mul_zero, Nat.add_zero, show i = M by omega, List.take_of_length_le (by omega)]
  | d + 1, i, hi => by
    have hxl : ((l.drop at_).take n).length = n := by rw [List.length_take, List.length_drop]; omega
    have hlen : (fillN (((l.drop at_).take n).take i) i).length = i := fill_length _ _ (by rw [List.length_take]; omega)
    have ih := ref_fill k W l out at_ n hl hn hx M hM d (i + 1) (by omega)
    rw [show k + 2 * (d + 1) = (k + 2 * d) + 1 + 1 by omega, marquetryref11_Told.l1]
    by_cases c : i < n
    · have hg : ((l.drop at_).take n).getD i 0 = l.getD (at_ + i) 0 := by
        rw [List.getD_eq_getElem?_getD, List.getElem?_take_of_lt c, List.getElem?_drop, ← List.getD_eq_getElem?_getD]
      have hr : rd l ((at_ + i : Nat) : Int) = l.getD (at_ + i) 0 := rfl
      have hget : 0 ≤ l.getD (at_ + i) 0 ∧ l.getD (at_ + i) 0 ≤ 9223372036854775807 := by
        rw [List.getD_eq_getElem?_getD, List.getElem?_eq_getElem (by omega)]; exact hx _ (List.getElem_mem (by omega))
      have hw : IntKind.u64.wrap (l.getD (at_ + i) 0) = l.getD (at_ + i) 0 := by rw [u64w]; omega
      rw [if_pos (by omega), marquetryref11_Told.j2, if_pos rfl, if_pos (by omega), w64a (by omega), if_pos (by omega), if_pos (by omega), hlen, if_pos (by omega), hr, hw, ← hg, fill_snoc_in _ _ (by omega), w64s' (by omega)]
      exact ih
    · rw [if_neg (by omega), hlen, marquetryref11_Told.j2, if_pos (by simp; omega), if_neg (by omega), hlen, if_pos (by omega), fill_snoc_out _ _ (by omega), w64s' (by omega)]
      exact ih
end Go.Proofs.Ytpibhiacmceekaa.L11

namespace Go.Proofs.Ytpibhiacmceekaa.L1
set_option linter.unusedVariables false
set_option linter.unusedSimpArgs false
open Go.RowKit Go.Proofs.Ytpibhiacmceekaa.X Go.Proofs.YtpibhiacmceekaaW.PrintWords Go.Proofs.YtpibhiacmceekaaW.PrintLast Go.Proofs.YtpibhiacmceekaaW.PrintMore Go.Proofs.Ytpibhiacmceekaa.Bx Go.Proofs.Ytpibhiacmceekaa.Nx

/-- The bytes of a number as a varint. -/
def vb (n : Nat) : List Int := if n < 128 then [(n : Int)] else ((n % 128 + 128 : Nat) : Int) :: vb (n / 128)
termination_by n
decreasing_by omega
theorem vb_small {n : Nat} (h : n < 128) : vb n = [(n : Int)] := by rw [vb, if_pos h]
theorem vb_big {n : Nat} (h : 128 ≤ n) : vb n = ((n % 128 + 128 : Nat) : Int) :: vb (n / 128) := by rw [vb, if_neg (by omega)]
theorem vb_length : ∀ (d : Nat) (n : Nat), n < 128 ^ (d + 1) → 1 ≤ (vb n).length ∧ (vb n).length ≤ d + 1
  | 0, n, h => by rw [vb_small (by simpa using h)]; simp
  | d + 1, n, h => by
    by_cases c : n < 128
    · rw [vb_small c]; simp
    · rw [vb_big (by omega)]
      have := vb_length d (n / 128) (by rw [Nat.pow_succ] at h; omega)
      simp; omega
theorem vb_length64 {n : Nat} (h : n < 18446744073709551616) : 1 ≤ (vb n).length ∧ (vb n).length ≤ 10 := vb_length 9 n (by omega)
theorem vb_range : ∀ (n : Nat), ∀ x ∈ vb n, 0 ≤ x ∧ x ≤ 255 := by
  intro n
  induction n using Nat.strongRecOn with
  | _ n ih =>
    intro x hx
    by_cases c : n < 128
    · rw [vb_small c] at hx; simp at hx; omega
    · rw [vb_big (by omega), List.mem_cons] at hx
      rcases hx with rfl | hx
      · omega
      · exact ih (n / 128) (by omega) x hx
theorem varint_l : ∀ (k : Nat) (x : Int) (acc : List Int), 0 ≤ x → x ≤ 18446744073709551615 → acc.length + (vb x.toNat).length < 140737488355328 → (vb x.toNat).length ≤ k → bits_Varint.l0 k x acc = some (acc ++ vb x.toNat)
  | 0, x, _, _, _, _, h => by
    exfalso
    by_cases c : x.toNat < 128
    · rw [vb_small c] at h; simp at h
    · rw [vb_big (by omega)] at h; simp at h
  | k + 1, x, acc, h0, h1, h2, h => by
    simp only [bits_Varint.l0]
    rw [and_127_u64 x h0 h1, or_128_u64 _ (by omega) (by omega)]
    by_cases c : x ≥ 128
    · have e := vb_big (n := x.toNat) (by omega)
      rw [e, List.length_cons] at h h2
      rw [if_pos c, if_pos (by omega), e]
      have q : (x / 128).toNat = x.toNat / 128 := by omega
      rw [varint_l k (x / 128) _ (by omega) (by omega) (by rw [q]; simp; omega) (by rw [q]; omega), q]
      have r : (x % 128 + 128) % 256 = ((x.toNat % 128 + 128 : Nat) : Int) := by omega
      rw [r]; simp
    · have e := vb_small (n := x.toNat) (by omega)
      rw [e, List.length_singleton] at h2
      rw [if_neg c, if_pos (by omega), e, show x % 256 = ((x.toNat : Nat) : Int) by omega]
theorem varint {k : Nat} {x : Int} (hk : 10 ≤ k) (h0 : 0 ≤ x) (h1 : x ≤ 18446744073709551615) : bits_Varint.f k x = some (vb x.toNat) := by
  have := vb_length64 (n := x.toNat) (by omega)
  unfold bits_Varint.f
  rw [varint_l k x [] h0 h1 (by simp; omega) (by omega)]; simp


theorem varint_both : ∀ (k : Nat) (x : Int) (y : List Int), 0 ≤ x → x ≤ 18446744073709551615 → bits_Varint.l0 k x y = marquetryref01_Varint.l0 k x y := by
  intro k
  induction k with
  | zero => intros; rfl
  | succ k ih =>
    intro x y h0 h1
    simp only [bits_Varint.l0, marquetryref01_Varint.l0]
    rw [u64_tdiv 128 h0 h1 (by omega), show Int.tmod x 128 = x % 128 from Int.tmod_eq_emod_of_nonneg h0,
      and_127_u64 x h0 h1, or_128_u64 _ (by omega) (by omega), u64w, show (128 + x % 128) % 18446744073709551616 = x % 128 + 128 by omega]
    by_cases c : x ≥ 128
    · rw [if_pos c, if_pos c]
      by_cases d : y.length < 140737488355328
      · rw [if_pos d, if_pos d]; exact ih _ _ (by omega) (by omega)
      · rw [if_neg d, if_neg d]
    · rw [if_neg c, if_neg c]
theorem ref_varint {k : Nat} {x : Int} (hk : 10 ≤ k) (h0 : 0 ≤ x) (h1 : x ≤ 18446744073709551615) : marquetryref01_Varint.f k x = some (vb x.toNat) := by
  have := varint hk h0 h1
  unfold bits_Varint.f at this
  unfold marquetryref01_Varint.f
  rw [← varint_both k x [] h0 h1, this]
end Go.Proofs.Ytpibhiacmceekaa.L1

namespace Go.Proofs.Ytpibhiacmceekaa.X
open Go.RowKit Go.Proofs.YtpibhiacmceekaaW.PrintWords Go.Proofs.YtpibhiacmceekaaW.PrintLast Go.Proofs.YtpibhiacmceekaaW.PrintMore
attribute [local go_sem] max2_int min2_int max_two min_two max_three min_three max_four min_four   -- for this text's walks alone
set_option linter.unusedVariables false
set_option linter.unusedSimpArgs false

/-! ### marquetryref01_ReadLittle: function 51 -/
mutual
def marquetryref01_ReadLittle.j0 : Nat → List Int → Int → Int → Bool → Option (Int × Int)
 | 0, _, _, _, _ => none
 | k + 1, x0, x1, x2, x25 => if x25 = true then (some (0, 2)) else (if x2 > (wrap64 ((x0.length : Int) - x1)) then (some (0, 6)) else (marquetryref01_ReadLittle.l0 k x0 x1 0 (wrap64 (x2 - 1))))
def marquetryref01_ReadLittle.l0 : Nat → List Int → Int → Int → Int → Option (Int × Int)
 | 0, _, _, _, _ => none
 | k + 1, x0, x1, x8, x9 => if x9 ≥ 0 then (if 0 ≤ (wrap64 (x1 + x9)) then (if (wrap64 (x1 + x9)) < (x0.length : Int) then (marquetryref01_ReadLittle.l0 k x0 x1 (IntKind.u64.wrap ((IntKind.u64.wrap (x8 * 256)) + (IntKind.u64.wrap (rd x0 (wrap64 (x1 + x9)))))) (wrap64 (x9 - 1))) else (none)) else (none)) else (some (x8, 0))
end
def marquetryref01_ReadLittle.f (k : Nat) (l0 : List Int) (a1 : Int) (a2 : Int) : Option (Int × Int) := if a2 < 0 then (marquetryref01_ReadLittle.j0 k l0 a1 a2 true) else (if a2 > 8 then (marquetryref01_ReadLittle.j0 k l0 a1 a2 true) else (if a1 < 0 then (marquetryref01_ReadLittle.j0 k l0 a1 a2 true) else (marquetryref01_ReadLittle.j0 k l0 a1 a2 (decide (a1 > (l0.length : Int))))))
theorem marquetryref01_ReadLittle.mono_l : ∀ k, (∀ y0 y1 y2 y3, LeO (marquetryref01_ReadLittle.j0 k y0 y1 y2 y3) (marquetryref01_ReadLittle.j0 (k + 1) y0 y1 y2 y3)) ∧ (∀ y0 y1 y2 y3, LeO (marquetryref01_ReadLittle.l0 k y0 y1 y2 y3) (marquetryref01_ReadLittle.l0 (k + 1) y0 y1 y2 y3))
 | 0 => ⟨fun _ _ _ _ r h => by simp [marquetryref01_ReadLittle.j0] at h, fun _ _ _ _ r h => by simp [marquetryref01_ReadLittle.l0] at h⟩
 | k + 1 => by
  obtain ⟨ih0, ih1⟩ := marquetryref01_ReadLittle.mono_l k
  refine ⟨?_, ?_⟩
  ·intro y0 y1 y2 y3
   unfold marquetryref01_ReadLittle.j0
   repeat' first
   | (with_reducible exact ih0 _ _ _ _)
   | (with_reducible exact ih1 _ _ _ _)
   | (with_reducible exact LeO.refl _)
   | (with_reducible exact LeO.none _)
   | (with_reducible refine LeO.ite ?_ ?_)
   | (with_reducible refine LeO.bind ?_ (fun _ => ?_))
   | exact ih0 _ _ _ _
   | exact ih1 _ _ _ _
   | exact LeO.none _
   | refine LeO.ite ?_ ?_
   | refine LeO.bind ?_ (fun _ => ?_)
  ·intro y0 y1 y2 y3
   unfold marquetryref01_ReadLittle.l0
   repeat' first
   | (with_reducible exact ih0 _ _ _ _)
   | (with_reducible exact ih1 _ _ _ _)
   | (with_reducible exact LeO.refl _)
   | (with_reducible exact LeO.none _)
   | (with_reducible refine LeO.ite ?_ ?_)
   | (with_reducible refine LeO.bind ?_ (fun _ => ?_))
   | exact ih0 _ _ _ _
   | exact ih1 _ _ _ _
   | exact LeO.none _
   | refine LeO.ite ?_ ?_
   | refine LeO.bind ?_ (fun _ => ?_)
theorem marquetryref01_ReadLittle.mono : ∀ a0 a1 a2 k, LeO (marquetryref01_ReadLittle.f k a0 a1 a2) (marquetryref01_ReadLittle.f (k + 1) a0 a1 a2) := by
 intro a0 a1 a2 k
 obtain ⟨ih0, ih1⟩ := marquetryref01_ReadLittle.mono_l k
 unfold marquetryref01_ReadLittle.f
 repeat' first
   | (with_reducible exact ih0 _ _ _ _)
   | (with_reducible exact ih1 _ _ _ _)
   | (with_reducible exact LeO.refl _)
   | (with_reducible exact LeO.none _)
   | (with_reducible refine LeO.ite ?_ ?_)
   | (with_reducible refine LeO.bind ?_ (fun _ => ?_))
   | exact ih0 _ _ _ _
   | exact ih1 _ _ _ _
   | exact LeO.none _
   | refine LeO.ite ?_ ?_
   | refine LeO.bind ?_ (fun _ => ?_)
set_option maxHeartbeats 8000000 in
set_option maxRecDepth 100000 in
theorem marquetryref01_ReadLittle.calls (k : Nat) (A0 : Option Addr) (c0 : Nat) (l0 : List Int) (a1 : Int) (a2 : Int) (r1 : Int) (r2 : Int) (w : World) (hr0 : Kd.C (Kd.int .u8) w A0 l0.length l0) (hc0 : l0.length ≤ c0) (h : marquetryref01_ReadLittle.f k l0 a1 a2 = some (r1, r2)) :
  Calls Try.prog 51 #[.slice A0 l0.length c0, .int .i64 a1, .int .i64 a2] w fun e w' => e = .returned (.tuple #[.int .u64 r1, .int .i64 r2]) ∧ Drawn0 w w' := by
 have HR0 := Aside0.mk hr0
 have HC0 := Aside0.mk hc0
 clear hr0 hc0
 have H : (if a2 < 0 then (marquetryref01_ReadLittle.j0 k l0 a1 a2 true) else (if a2 > 8 then (marquetryref01_ReadLittle.j0 k l0 a1 a2 true) else (if a1 < 0 then (marquetryref01_ReadLittle.j0 k l0 a1 a2 true) else (marquetryref01_ReadLittle.j0 k l0 a1 a2 (decide (a1 > (l0.length : Int))))))) = some (r1, r2) := h
 clear h
 have HC4 := Aside0.mk H
 clear H
 go_enter Try.func51, Try.ntmps51
 go_upto_region 1 with (fail)
 go_cut [25] (fun v25 wc => ∃ (kq : Nat) (x25_3 : Bool), v25 = .bool x25_3 ∧ Aside0 (marquetryref01_ReadLittle.j0 kq l0 a1 a2 x25_3 = some (r1, r2)) ∧ Aside0 (kq ≤ k) ∧ Drawn0 w wc)
 case first =>
  have H := HC4.out
  clear HC4
  by_cases c5 : a2 < 0
  ·rw [if_pos c5] at H
   have c5b0 : decide (a2 < 0) = true := decide_eq_true c5
   clear c5
   (first | rw [c5b0] | (simp only [i64_w, i32_w]; rw [c5b0]) | skip)
   have H' := Aside0.mk H
   clear H
   go_wp2
   go_meet
   case rel => exact ⟨_, (true), (by first | rfl | (simp; done) | (simp [*]; done)), H', ⟨by first | omega | exact Nat.le_refl _⟩, by repeat (first | exact Drawn0.refl _ | apply Drawn0.step)⟩
  ·rw [if_neg c5] at H
   have c5b0 : decide (a2 < 0) = false := decide_eq_false c5
   clear c5
   (first | rw [c5b0] | (simp only [i64_w, i32_w]; rw [c5b0]) | skip)
   by_cases c6 : a2 > 8
   ·rw [if_pos c6] at H
    have c6b0 : decide (8 < a2) = true := decide_eq_true c6
    clear c6
    have H' := Aside0.mk H
    clear H
    go_wp2
    go_meet
    case rel => exact ⟨_, (true), (by first | rfl | (simp; done) | (simp [*]; done)), H', ⟨by first | omega | exact Nat.le_refl _⟩, by repeat (first | exact Drawn0.refl _ | apply Drawn0.step)⟩
   ·rw [if_neg c6] at H
    have c6b0 : decide (8 < a2) = false := decide_eq_false c6
    clear c6
    by_cases c7 : a1 < 0
    ·rw [if_pos c7] at H
     have c7b0 : decide (a1 < 0) = true := decide_eq_true c7
     clear c7
     have H' := Aside0.mk H
     clear H
     go_wp2
     go_meet
     case rel => exact ⟨_, (true), (by first | rfl | (simp; done) | (simp [*]; done)), H', ⟨by first | omega | exact Nat.le_refl _⟩, by repeat (first | exact Drawn0.refl _ | apply Drawn0.step)⟩
    ·rw [if_neg c7] at H
     have c7b0 : decide (a1 < 0) = false := decide_eq_false c7
     clear c7
     have H' := Aside0.mk H
     clear H
     go_wp2
     go_meet
     case rel => exact ⟨_, (decide (a1 > (l0.length : Int))), (by first | rfl | (simp; done) | (simp [*]; done)), H', ⟨by first | omega | exact Nat.le_refl _⟩, by repeat (first | exact Drawn0.refl _ | apply Drawn0.step)⟩
 case rest =>
  clear HC4
  try clear p2
  try clear c5
  try clear c5b0
  try clear c6
  try clear c6b0
  try clear c7
  try clear c7b0
  obtain ⟨kq, x25_3, rfl, HA, HJ3, ⟨mc3, rfl⟩⟩ := hcut
  cases kq with
  | zero => exact absurd HA.out (by simp [marquetryref01_ReadLittle.j0])
  | succ kj3 =>
   have H := HA.out
   clear HA
   simp only [marquetryref01_ReadLittle.j0] at H
   by_cases c8 : x25_3 = true
   ·subst c8
    have H1 : (some (0, 2)) = some (r1, r2) := by rw [if_pos rfl] at H; exact H
    clear H
    have H := H1
    clear H1
    simp only [Option.some.injEq, Prod.mk.injEq] at H
    obtain ⟨rfl, rfl⟩ := H
    go_wp2
    go_ret2
    exact ⟨by first | rfl | (simp; done) | (simp [*]; done), by repeat (first | exact Drawn0.refl _ | apply Drawn0.step)⟩
   ·replace c8 := Bool.eq_false_iff.mpr c8
    subst c8
    have H1 : (if a2 > (wrap64 ((l0.length : Int) - a1)) then (some (0, 6)) else (marquetryref01_ReadLittle.l0 kj3 l0 a1 0 (wrap64 (a2 - 1)))) = some (r1, r2) := by rw [if_neg (show ¬ (false = true) by decide)] at H; exact H
    clear H
    have H := H1
    clear H1
    by_cases c9 : a2 > (wrap64 ((l0.length : Int) - a1))
    ·rw [if_pos c9] at H
     have c9b0 : decide ((wrap64 ((l0.length : Int) - a1)) < a2) = true := decide_eq_true c9
     clear c9
     simp only [Option.some.injEq, Prod.mk.injEq] at H
     obtain ⟨rfl, rfl⟩ := H
     go_wp2
     go_ret2
     exact ⟨by first | rfl | (simp; done) | (simp [*]; done), by repeat (first | exact Drawn0.refl _ | apply Drawn0.step)⟩
    ·rw [if_neg c9] at H
     have c9b0 : decide ((wrap64 ((l0.length : Int) - a1)) < a2) = false := decide_eq_false c9
     clear c9
     have H' := Aside0.mk H
     clear H
     go_wp2
     go_loopg [8, 9] kj3 (fun kq v8 v9 w' => ∃ (x8_2 : Int) (x9_2 : Int), v8 = .int .u64 x8_2 ∧ v9 = .int .i64 x9_2 ∧ Aside0 (marquetryref01_ReadLittle.l0 kq l0 a1 x8_2 x9_2 = some (r1, r2)) ∧ Aside0 (kq ≤ kj3) ∧ Drawn0 w w')
     case atStart => exact ⟨(0), (wrap64 (a2 - 1)), (by first | rfl | (simp; done) | (simp [*]; done)), (by first | rfl | (simp; done) | (simp [*]; done)), H', ⟨Nat.le_refl _⟩, by repeat (first | exact Drawn0.refl _ | apply Drawn0.step)⟩
     case round =>
      clear H'
      try clear p2
      try clear c3
      try clear c5
      try clear c5b0
      try clear c6
      try clear c6b0
      try clear p6
      try clear c7
      try clear c7b0
      try clear c8
      try clear c9
      try clear c9b0
      try clear p2
      obtain ⟨x8_2, x9_2, rfl, rfl, HA, HK2, ⟨m2, rfl⟩⟩ := hrel
      cases gk with
      | zero => exact absurd HA.out (by simp [marquetryref01_ReadLittle.l0])
      | succ k2 =>
       have H := HA.out
       clear HA
       simp only [marquetryref01_ReadLittle.l0] at H
       by_cases c10 : x9_2 ≥ 0
       ·rw [if_pos c10] at H
        have c10b0 : decide (0 ≤ x9_2) = true := decide_eq_true c10
        clear c10
        obtain ⟨ji11, hji11⟩ : ∃ j_ : Int, (wrap64 (a1 + x9_2)) = j_ := ⟨_, rfl⟩
        replace H : (if 0 ≤ (ji11) then (if (ji11) < (l0.length : Int) then (marquetryref01_ReadLittle.l0 k2 l0 a1 (IntKind.u64.wrap ((IntKind.u64.wrap (x8_2 * 256)) + (IntKind.u64.wrap (rd l0 (ji11))))) (wrap64 (x9_2 - 1))) else (none)) else (none)) = some (r1, r2) := by first | (rw [hji11] at H; exact H) | (simp only [hji11] at H ⊢; exact H)
        have hji11w : (IntKind.i64.wrap (a1 + x9_2)) = ji11 := (i64_w _).trans hji11
        by_cases c12 : 0 ≤ (ji11)
        ·rw [if_pos c12] at H
         have c12b0 : decide (0 ≤ (ji11)) = true := decide_eq_true c12
         clear c12
         by_cases c13 : (ji11) < (l0.length : Int)
         ·rw [if_pos c13] at H
          have c13b0 : decide ((ji11) < (l0.length : Int)) = true := decide_eq_true c13
          clear c13
          have H' := Aside0.mk H
          clear H
          have p337 : 0 ≤ ((ji11) : Int) := of_decide_eq_true (by first | (with_reducible assumption) | assumption)
          have q337 : (ji11) < (l0.length : Int) := of_decide_eq_true (by first | (with_reducible assumption) | assumption)
          obtain ⟨ad337, e337, hx337_0⟩ := Kd.at_int HR0.out (ji11) p337 q337
          cases e337
          replace p337 := eq_true p337
          replace q337 := eq_true q337
          go_wp2
          go_roundg k2
          case measure => have := HJ3.out; have := HK2.out; omega
          case rel => exact ⟨(IntKind.u64.wrap ((IntKind.u64.wrap (x8_2 * 256)) + (IntKind.u64.wrap (rd l0 (ji11))))), (wrap64 (x9_2 - 1)), (by first | rfl | (simp; done) | (simp only [← hji11] <;> (first | rfl | simp)) | (simp [*]; done)), (by first | rfl | (simp; done) | (simp [*]; done)), H', ⟨by have := HJ3.out; have := HK2.out; omega⟩, by repeat (first | exact Drawn0.refl _ | apply Drawn0.step)⟩
         ·rw [if_neg c13] at H
          exact absurd H (by simp)
        ·rw [if_neg c12] at H
         exact absurd H (by simp)
       ·rw [if_neg c10] at H
        have c10b0 : decide (0 ≤ x9_2) = false := decide_eq_false c10
        clear c10
        simp only [Option.some.injEq, Prod.mk.injEq] at H
        obtain ⟨rfl, rfl⟩ := H
        go_wp2
        go_ret2
        exact ⟨by first | rfl | (simp; done) | (simp [*]; done), by repeat (first | exact Drawn0.refl _ | apply Drawn0.step)⟩

end Go.Proofs.Ytpibhiacmceekaa.X

namespace Go.Proofs.Ytpibhiacmceekaa.L1
set_option linter.unusedVariables false
set_option linter.unusedSimpArgs false
open Go.RowKit Go.Proofs.Ytpibhiacmceekaa.X Go.Proofs.YtpibhiacmceekaaW.PrintWords Go.Proofs.YtpibhiacmceekaaW.PrintLast Go.Proofs.YtpibhiacmceekaaW.PrintMore Go.Proofs.Ytpibhiacmceekaa.Bx Go.Proofs.Ytpibhiacmceekaa.Nx

theorem wd_step {x : Int} (h : x > 0) : wd x.toNat = wd (x / 2).toNat + 1 := by
  rw [wd_pos (by omega)]; congr 2; omega
theorem ref_width_l : ∀ (k : Nat) (x y : Int), 0 ≤ x → x ≤ 18446744073709551615 → 0 ≤ y → y + wd x.toNat ≤ 4611686018427387904 → wd x.toNat < k → marquetryref01_Width.l0 k x y = some (y + wd x.toNat)
  | 0, _, _, _, _, _, _, h => absurd h (by omega)
  | k + 1, x, y, h0, h1, h2, h3, h => by
    simp only [marquetryref01_Width.l0]
    by_cases c : x > 0
    · have e := wd_step c
      rw [if_pos c, u64_tdiv 2 h0 h1 (by omega), w64 (by omega) (by omega), ref_width_l k (x / 2) (y + 1) (by omega) (by omega) (by omega) (by omega) (by omega), e]
      congr 1; omega
    · have e : x = 0 := by omega
      subst e
      rw [if_neg (by omega)]; simp [wd_zero]
theorem width_l : ∀ (k : Nat) (x y : Int), 0 ≤ x → x ≤ 18446744073709551615 → 0 ≤ y → y + wd x.toNat ≤ 4611686018427387904 → wd x.toNat < k → bits_Width.l0 k x y = some (y + wd x.toNat)
  | 0, _, _, _, _, _, _, h => absurd h (by omega)
  | k + 1, x, y, h0, h1, h2, h3, h => by
    simp only [bits_Width.l0]
    by_cases c : x > 0
    · have e := wd_step c
      rw [if_pos c, w64 (by omega) (by omega), width_l k (x / 2) (y + 1) (by omega) (by omega) (by omega) (by omega) (by omega), e]
      congr 1; omega
    · have e : x = 0 := by omega
      subst e
      rw [if_neg (by omega)]; simp [wd_zero]
theorem ref_width {k : Nat} {x : Int} (hk : 65 ≤ k) (h0 : 0 ≤ x) (h1 : x ≤ 18446744073709551615) : marquetryref01_Width.f k x = some (wd x.toNat : Int) := by
  have := wd_le64 x.toNat (by omega)
  unfold marquetryref01_Width.f
  rw [ref_width_l k x 0 h0 h1 (by omega) (by omega) (by omega)]; congr 1; omega
theorem width {k : Nat} {x : Int} (hk : 65 ≤ k) (h0 : 0 ≤ x) (h1 : x ≤ 18446744073709551615) : bits_Width.f k x = some (wd x.toNat : Int) := by
  have := wd_le64 x.toNat (by omega)
  unfold bits_Width.f
  rw [width_l k x 0 h0 h1 (by omega) (by omega) (by omega)]; congr 1; omega

/-! ### numbers as bytes -/
def LittleR (n m : Int) : List Int × Int := if m < 0 ∨ m > 8 ∨ (m < 8 ∧ n / 2 ^ (8 * m).toNat ≠ 0) then ([], 2) else (leb m.toNat n, 0)
theorem leb_step (m i x : Int) (acc : List Int) (h : i < m) : (acc ++ [x % 256]) ++ leb (m - (i + 1)).toNat (x / 256) = acc ++ leb (m - i).toNat x := by
  obtain ⟨d, hd⟩ : ∃ d, (m - i).toNat = d + 1 := ⟨(m - i).toNat - 1, by omega⟩
  rw [hd, show (m - (i + 1)).toNat = d by omega]
  simp [leb]
theorem little_l : ∀ (k : Nat) (x : Int) (acc : List Int) (m i : Int), 0 ≤ i → i ≤ m → m ≤ 8 → acc.length + (m - i).toNat < 140737488355328 → (m - i).toNat < k → bits_Little.l0 k x acc m i = some (acc ++ leb (m - i).toNat x, 0)
  | 0, _, _, _, _, _, _, _, _, h => absurd h (by omega)
  | k + 1, x, acc, m, i, h0, h1, h2, h3, h => by
    simp only [bits_Little.l0]
    by_cases c : i < m
    · rw [if_pos c, if_pos (by omega), w64 (by omega) (by omega), little_l k _ _ m (i + 1) (by omega) (by omega) h2 (by simp; omega) (by omega), leb_step m i x acc c]
    · rw [if_neg c, show (m - i).toNat = 0 by omega]; simp [leb]
theorem ref_little_l : ∀ (k : Nat) (x : Int) (acc : List Int) (m i : Int), 0 ≤ x → x ≤ 18446744073709551615 → 0 ≤ i → i ≤ m → m ≤ 8 → acc.length + (m - i).toNat < 140737488355328 → (m - i).toNat < k → marquetryref01_Little.l0 k x m acc i = some (acc ++ leb (m - i).toNat x, 0)
  | 0, _, _, _, _, _, _, _, _, _, _, h => absurd h (by omega)
  | k + 1, x, acc, m, i, hx, hx', h0, h1, h2, h3, h => by
    simp only [marquetryref01_Little.l0]
    by_cases c : i < m
    · rw [if_pos c, if_pos (by omega), w64 (by omega) (by omega), u64_tdiv 256 hx hx' (by omega), show Int.tmod x 256 = x % 256 from Int.tmod_eq_emod_of_nonneg hx, show x % 256 % 256 = x % 256 by omega,
        ref_little_l k _ _ m (i + 1) (by omega) (by omega) (by omega) (by omega) h2 (by simp; omega) (by omega), leb_step m i x acc c]
    · rw [if_neg c, show (m - i).toNat = 0 by omega]; simp [leb]
theorem little {k : Nat} {n m : Int} (hk : 12 ≤ k) (hm : -9223372036854775808 ≤ m) (hm' : m ≤ 9223372036854775807) : bits_Little.f k n m = some (LittleR n m) := by
  obtain ⟨k, rfl⟩ : ∃ j, k = j + 1 := ⟨k - 1, by omega⟩
  unfold bits_Little.f LittleR
  simp only [bits_Little.j0]
  by_cases c0 : m < 0
  · rw [if_pos c0, if_pos trivial, if_pos (by omega)]
  rw [if_neg c0]
  by_cases c1 : m > 8
  · rw [if_pos c1, if_pos trivial, if_pos (by omega)]
  rw [if_neg c1]
  by_cases c2 : m < 8
  · rw [if_pos c2, w64 (by omega) (by omega), if_pos (by omega)]
    have e : shr .u64 n (8 * m) = n / 2 ^ (8 * m).toNat := by
      unfold shr; rw [Nat.min_eq_left (by simp [IntKind.bits]; omega)]
    rw [e]
    by_cases c3 : n / 2 ^ (8 * m).toNat = 0
    · rw [c3]; simp only [bne_self_eq_false, Bool.false_eq_true, if_false]
      rw [little_l k n [] m 0 (by omega) (by omega) (by omega) (by simp; omega) (by omega), if_neg (by omega)]
      simp
    · rw [if_pos (by simpa using c3), if_pos (by omega)]
  · rw [if_neg c2]
    simp only [Bool.false_eq_true, if_false]
    rw [little_l k n [] m 0 (by omega) (by omega) (by omega) (by simp; omega) (by omega), if_neg (by omega)]
    simp
theorem wd_gt {n m : Int} (h0 : 0 ≤ n) (h1 : 0 ≤ m) : ((wd n.toNat : Int) > m) ↔ n / 2 ^ m.toNat ≠ 0 := by
  obtain ⟨a, rfl⟩ := Int.eq_ofNat_of_zero_le h0
  obtain ⟨b, rfl⟩ := Int.eq_ofNat_of_zero_le h1
  have := wd_le b a
  have e : ((a : Int) / 2 ^ (b : Int).toNat) = ((a / 2 ^ b : Nat) : Int) := by simp
  rw [e]
  have hp := Nat.two_pow_pos b
  have := @Nat.div_eq_zero_iff_lt (2 ^ b) a hp
  constructor
  · intro h; simp at h; omega
  · intro h; simp; omega
theorem ref_little {k : Nat} {n m : Int} (hk : 66 ≤ k) (h0 : 0 ≤ n) (h1 : n ≤ 18446744073709551615) (hm : -9223372036854775808 ≤ m) (hm' : m ≤ 9223372036854775807) : marquetryref01_Little.f k n m = some (LittleR n m) := by
  obtain ⟨k, rfl⟩ : ∃ j, k = j + 1 := ⟨k - 1, by omega⟩
  unfold marquetryref01_Little.f LittleR
  simp only [marquetryref01_Little.j0]
  by_cases c0 : m < 0
  · rw [if_pos c0, if_pos trivial, if_pos (by omega)]
  rw [if_neg c0]
  by_cases c1 : m > 8
  · rw [if_pos c1, if_pos trivial, if_pos (by omega)]
  rw [if_neg c1, ref_width (by omega) h0 h1, Option.bind_some, w64 (by omega) (by omega)]
  have hw := wd_le64 n.toNat (by omega)
  have g := wd_gt h0 (show 0 ≤ 8 * m by omega)
  by_cases c3 : (wd n.toNat : Int) > 8 * m
  · have c4 := g.1 c3
    rw [if_pos (by simpa using c3), if_pos (by omega)]
  · have c4 : n / 2 ^ (8 * m).toNat = 0 := by
      by_cases q : n / 2 ^ (8 * m).toNat = 0
      · exact q
      · exact absurd (g.2 q) c3
    rw [if_neg (by simpa using c3), ref_little_l k n [] m 0 h0 h1 (by omega) (by omega) (by omega) (by simp; omega) (by omega), if_neg (by omega)]
    simp

/-! ### numbers of bytes -/
def ReadLittleR (b : List Int) (a m : Int) : Int × Int := if m < 0 ∨ m > 8 ∨ a < 0 ∨ a > b.length then (0, 2) else if m > b.length - a then (0, 6) else (leS (win b a.toNat m.toNat), 0)
theorem getD_range {b : List Int} (hb : ∀ x ∈ b, 0 ≤ x ∧ x ≤ 255) (i : Nat) : 0 ≤ b.getD i 0 ∧ b.getD i 0 ≤ 255 := by
  rw [List.getD_eq_getElem?_getD]
  by_cases h : i < b.length
  · rw [List.getElem?_eq_getElem h]; exact hb _ (List.getElem_mem h)
  · rw [List.getElem?_eq_none (by omega)]; simp
theorem leS_win_lt {b : List Int} (hb : ∀ x ∈ b, 0 ≤ x ∧ x ≤ 255) {a m : Nat} (h : a + m ≤ b.length) : 0 ≤ leS (win b a m) ∧ leS (win b a m) < 256 ^ m := by
  have h1 := leS_nonneg (win b a m) (fun x hx => hb x (win_mem hx))
  have h2 := leS_lt (win b a m) (fun x hx => hb x (win_mem hx))
  rw [win_length h] at h2
  exact ⟨h1, h2⟩
theorem pow256 (i : Nat) : (256 : Int) ^ i = 2 ^ (8 * i) := by rw [Int.pow_mul]; rfl
theorem pow256_le {i j : Nat} (h : i ≤ j) : (256 : Int) ^ i ≤ 256 ^ j := by
  have h2 : ((256 ^ i : Nat) : Int) ≤ ((256 ^ j : Nat) : Int) := Int.ofNat_le.2 (Nat.pow_le_pow_right (by decide) h)
  rw [Int.natCast_pow, Int.natCast_pow] at h2
  exact h2
theorem read_step {b : List Int} (hb : ∀ x ∈ b, 0 ≤ x ∧ x ≤ 255) (a i : Nat) (h : a + i < b.length) (hi : i < 8) :
    bits .or .u64 (leS (win b a i)) (shl .u64 (IntKind.u64.wrap (b.getD (a + i) 0)) (8 * i : Nat)) = leS (win b a (i + 1)) := by
  obtain ⟨h1, h2⟩ := leS_win_lt hb (show a + i ≤ b.length by omega)
  obtain ⟨r1, r2⟩ := getD_range hb (a + i)
  have hp : (256 : Int) ^ (i + 1) ≤ 256 ^ 8 := pow256_le (by omega)
  have h8 : (256 : Int) ^ 8 = 18446744073709551616 := by decide
  have hs : b.getD (a + i) 0 * 256 ^ i < 256 ^ (i + 1) := by
    rw [Int.pow_succ, Int.mul_comm]
    exact Int.mul_lt_mul_of_pos_left (by omega) (Int.pow_pos (by decide))
  have hs0 : 0 ≤ b.getD (a + i) 0 * 256 ^ i := Int.mul_nonneg r1 (Int.le_of_lt (Int.pow_pos (by decide)))
  have e : shl .u64 (IntKind.u64.wrap (b.getD (a + i) 0)) (8 * i : Nat) = b.getD (a + i) 0 * 256 ^ i := by
    unfold shl
    rw [u64w, u64w, Int.emod_eq_of_lt r1 (by omega), Nat.min_eq_left (by simp [IntKind.bits]; omega), show ((8 * i : Nat) : Int).toNat = 8 * i by omega, ← pow256]
    exact Int.emod_eq_of_lt hs0 (by omega)
  rw [e, win_snoc h, leS_snoc, win_length (by omega), or_low_high (8 * i) _ _ h1 (by rw [← pow256]; exact h2) hs0 (by rw [← pow256]; exact Int.mul_emod_left _ _) (by omega) (by have := pow256_le (show i ≤ 8 by omega); omega), Int.mul_comm]
theorem read_l : ∀ (k : Nat) (b : List Int) (a m i : Int), (∀ x ∈ b, 0 ≤ x ∧ x ≤ 255) → b.length ≤ 9223372036854775000 → 0 ≤ a → 0 ≤ i → i ≤ m → m ≤ 8 → a + m ≤ b.length → (m - i).toNat < k →
    bits_ReadLittle.l0 k b a (leS (win b a.toNat i.toNat)) m i = some (leS (win b a.toNat m.toNat), 0)
  | 0, _, _, _, _, _, _, _, _, _, _, _, h => absurd h (by omega)
  | k + 1, b, a, m, i, hb, hl, h0, h1, h2, h3, h4, h => by
    simp only [bits_ReadLittle.l0]
    by_cases c : i < m
    · rw [if_pos c, w64 (by omega) (by omega), if_pos (by omega), if_pos (by omega), w64 (by omega) (by omega), if_pos (by omega), w64 (by omega) (by omega)]
      have e := read_step hb a.toNat i.toNat (by omega) (by omega)
      rw [show ((8 * i.toNat : Nat) : Int) = 8 * i by omega] at e
      have e2 : rd b (a + i) = b.getD (a.toNat + i.toNat) 0 := by unfold rd; congr 1; omega
      rw [e2, e, show i.toNat + 1 = (i + 1).toNat by omega]
      exact read_l k b a m (i + 1) hb hl h0 (by omega) (by omega) h3 h4 (by omega)
    · rw [if_neg c, show i = m by omega]
theorem readLittle {k : Nat} {b : List Int} {a m : Int} (hk : 12 ≤ k) (hb : ∀ x ∈ b, 0 ≤ x ∧ x ≤ 255) (hl : b.length ≤ 9223372036854775000) (ha : a ≤ 9223372036854775807) : bits_ReadLittle.f k b a m = some (ReadLittleR b a m) := by
  obtain ⟨k, rfl⟩ : ∃ j, k = j + 1 := ⟨k - 1, by omega⟩
  unfold bits_ReadLittle.f ReadLittleR
  simp only [bits_ReadLittle.j0]
  by_cases c0 : m < 0
  · rw [if_pos c0, if_pos trivial, if_pos (by omega)]
  rw [if_neg c0]
  by_cases c1 : m > 8
  · rw [if_pos c1, if_pos trivial, if_pos (by omega)]
  rw [if_neg c1]
  by_cases c2 : a < 0
  · rw [if_pos c2, if_pos trivial, if_pos (by omega)]
  rw [if_neg c2]
  by_cases c3 : a > (b.length : Int)
  · rw [if_pos (by simpa using c3), if_pos (by omega)]
  rw [if_neg (by simpa using c3), w64 (by omega) (by omega)]
  by_cases c4 : m > (b.length : Int) - a
  · rw [if_pos c4, if_neg (by omega), if_pos c4]
  rw [if_neg c4, if_neg (by omega), if_neg c4]
  have := read_l k b a m 0 hb hl (by omega) (by omega) (by omega) (by omega) (by omega) (by omega)
  rwa [show (0 : Int).toNat = 0 from rfl, win_zero] at this
theorem ref_read_l : ∀ (k : Nat) (b : List Int) (a m i : Int), (∀ x ∈ b, 0 ≤ x ∧ x ≤ 255) → b.length ≤ 9223372036854775000 → 0 ≤ a → -1 ≤ i → i < m → m ≤ 8 → a + m ≤ b.length → (i + 1).toNat < k →
    marquetryref01_ReadLittle.l0 k b a (leS (win b (a + i + 1).toNat (m - i - 1).toNat)) i = some (leS (win b a.toNat m.toNat), 0)
  | 0, _, _, _, _, _, _, _, _, _, _, _, h => absurd h (by omega)
  | k + 1, b, a, m, i, hb, hl, h0, h1, h2, h3, h4, h => by
    simp only [marquetryref01_ReadLittle.l0]
    by_cases c : i ≥ 0
    · rw [if_pos c, w64 (by omega) (by omega), if_pos (by omega), if_pos (by omega), w64 (by omega) (by omega)]
      obtain ⟨r1, r2⟩ := getD_range hb (a + i).toNat
      obtain ⟨q1, q2⟩ := leS_win_lt hb (show (a + i + 1).toNat + (m - i - 1).toNat ≤ b.length by omega)
      have e := win_cons (l := b) (a := (a + i).toNat) (m := (m - i - 1).toNat) (by omega)
      have e2 : rd b (a + i) = b.getD (a + i).toNat 0 := rfl
      have hp := pow256_le (show (m - i - 1).toNat ≤ 7 by omega)
      have h7 : (256 : Int) ^ 7 = 72057594037927936 := by decide
      have e3 : IntKind.u64.wrap ((IntKind.u64.wrap (leS (win b (a + i + 1).toNat (m - i - 1).toNat) * 256)) + (IntKind.u64.wrap (rd b (a + i)))) = leS (win b (a + (i - 1) + 1).toNat (m - (i - 1) - 1).toNat) := by
        rw [show (a + (i - 1) + 1).toNat = (a + i).toNat by omega, show (m - (i - 1) - 1).toNat = (m - i - 1).toNat + 1 by omega, e, leS, u64w, u64w, u64w, e2, show (a + i).toNat + 1 = (a + i + 1).toNat by omega]
        omega
      rw [e3]
      exact ref_read_l k b a m (i - 1) hb hl h0 (by omega) (by omega) h3 h4 (by omega)
    · rw [if_neg c, show i = -1 by omega]
      rw [show (a + -1 + 1).toNat = a.toNat by omega, show (m - -1 - 1).toNat = m.toNat by omega]
theorem ref_readLittle {k : Nat} {b : List Int} {a m : Int} (hk : 12 ≤ k) (hb : ∀ x ∈ b, 0 ≤ x ∧ x ≤ 255) (hl : b.length ≤ 9223372036854775000) (ha : a ≤ 9223372036854775807) : marquetryref01_ReadLittle.f k b a m = some (ReadLittleR b a m) := by
  obtain ⟨k, rfl⟩ : ∃ j, k = j + 1 := ⟨k - 1, by omega⟩
  unfold marquetryref01_ReadLittle.f ReadLittleR
  simp only [marquetryref01_ReadLittle.j0]
  by_cases c0 : m < 0
  · rw [if_pos c0, if_pos trivial, if_pos (by omega)]
  rw [if_neg c0]
  by_cases c1 : m > 8
  · rw [if_pos c1, if_pos trivial, if_pos (by omega)]
  rw [if_neg c1]
  by_cases c2 : a < 0
  · rw [if_pos c2, if_pos trivial, if_pos (by omega)]
  rw [if_neg c2]
  by_cases c3 : a > (b.length : Int)
  · rw [if_pos (by simpa using c3), if_pos (by omega)]
  rw [if_neg (by simpa using c3), w64 (by omega) (by omega)]
  by_cases c4 : m > (b.length : Int) - a
  · rw [if_pos c4, if_neg (by omega), if_pos c4]
  rw [if_neg c4, if_neg (by omega), if_neg c4, w64 (by omega) (by omega)]
  have := ref_read_l k b a m (m - 1) hb hl (by omega) (by omega) (by omega) (by omega) (by omega) (by omega)
  rwa [show (m - (m - 1) - 1).toNat = 0 by omega, win_zero] at this
end Go.Proofs.Ytpibhiacmceekaa.L1

namespace Go.Proofs.Ytpibhiacmceekaa.Px
set_option linter.unusedVariables false
set_option linter.unusedSimpArgs false
open Go.RowKit Go.Proofs.Ytpibhiacmceekaa.Bx Go.Proofs.Ytpibhiacmceekaa.Nx

/-- The bits of a number from a place on, so many. -/
def bitsFrom (n : Int) : Nat → Nat → List Int
  | _, 0 => []
  | i, d + 1 => n / 2 ^ i % 2 :: bitsFrom n (i + 1) d
theorem bitsFrom_length (n : Int) : ∀ d i, (bitsFrom n i d).length = d
  | 0, _ => rfl
  | d + 1, i => by simp [bitsFrom, bitsFrom_length n d]
theorem bitsFrom_range (n : Int) : ∀ d i, ∀ b ∈ bitsFrom n i d, b = 0 ∨ b = 1
  | 0, _, b, h => by simp [bitsFrom] at h
  | d + 1, i, b, h => by
    simp only [bitsFrom, List.mem_cons] at h
    rcases h with rfl | h
    · omega
    · exact bitsFrom_range n d _ b h
def allBits (w : Nat) (l : List Int) : List Int := l.flatMap fun x => bitsFrom x 0 w
theorem allBits_cons (w : Nat) (x : Int) (l : List Int) : allBits w (x :: l) = bitsFrom x 0 w ++ allBits w l := by simp [allBits]
theorem allBits_length (w : Nat) : ∀ l, (allBits w l).length = l.length * w
  | [] => by simp [allBits]
  | x :: l => by rw [allBits_cons, List.length_append, bitsFrom_length, allBits_length w l, List.length_cons, Nat.add_mul]; omega
theorem allBits_range (w : Nat) (l : List Int) : ∀ b ∈ allBits w l, b = 0 ∨ b = 1 := by
  intro b h
  obtain ⟨x, _, hx⟩ := List.mem_flatMap.1 h
  exact bitsFrom_range x w 0 b hx

/-- The j-th byte of bits in line. -/
def byteAt (B : List Int) (j : Nat) : Int :=
  B.getD (8 * j) 0 + 2 * B.getD (8 * j + 1) 0 + 4 * B.getD (8 * j + 2) 0 + 8 * B.getD (8 * j + 3) 0 + 16 * B.getD (8 * j + 4) 0 + 32 * B.getD (8 * j + 5) 0 + 64 * B.getD (8 * j + 6) 0 + 128 * B.getD (8 * j + 7) 0
/-- The bytes of bits in line. -/
def packB (B : List Int) : List Int := (List.range ((B.length + 7) / 8)).map (byteAt B)
theorem packB_length (B : List Int) : (packB B).length = (B.length + 7) / 8 := by simp [packB]
theorem getD_snoc (B : List Int) (b : Int) (m : Nat) : (B ++ [b]).getD m 0 = if m = B.length then b else B.getD m 0 := by
  simp only [List.getD_eq_getElem?_getD]
  by_cases h : m = B.length
  · subst h; simp
  · rw [if_neg h]
    rcases Nat.lt_or_ge m B.length with h1 | h1
    · rw [List.getElem?_append_left h1]
    · rw [List.getElem?_append_right h1, List.getElem?_eq_none (by simp; omega), List.getElem?_eq_none h1]
theorem getD_out (B : List Int) {m : Nat} (h : B.length ≤ m) : B.getD m 0 = 0 := by
  rw [List.getD_eq_getElem?_getD, List.getElem?_eq_none h]; rfl
theorem getD_bit {B : List Int} (hB : ∀ b ∈ B, b = 0 ∨ b = 1) (m : Nat) : B.getD m 0 = 0 ∨ B.getD m 0 = 1 := by
  rw [List.getD_eq_getElem?_getD]
  by_cases h : m < B.length
  · rw [List.getElem?_eq_getElem h]; exact hB _ (List.getElem_mem h)
  · rw [List.getElem?_eq_none (by omega)]; exact .inl rfl
theorem byteAt_snoc (B : List Int) (b : Int) (j : Nat) : byteAt (B ++ [b]) j = byteAt B j + if j = B.length / 8 then b * 2 ^ (B.length % 8) else 0 := by
  unfold byteAt
  simp only [getD_snoc]
  by_cases h : j = B.length / 8
  · rw [if_pos h]
    have q : ∀ t, (8 * j + t = B.length) = (t = B.length % 8) := fun t => propext (by omega)
    have q0 : (8 * j = B.length) = (0 = B.length % 8) := propext (by omega)
    have o := fun m => getD_out B (m := m)
    have o0 := o (8 * j); have o1 := o (8 * j + 1); have o2 := o (8 * j + 2); have o3 := o (8 * j + 3); have o4 := o (8 * j + 4); have o5 := o (8 * j + 5); have o6 := o (8 * j + 6); have o7 := o (8 * j + 7)
    have hr : B.length % 8 = 0 ∨ B.length % 8 = 1 ∨ B.length % 8 = 2 ∨ B.length % 8 = 3 ∨ B.length % 8 = 4 ∨ B.length % 8 = 5 ∨ B.length % 8 = 6 ∨ B.length % 8 = 7 := by omega
    simp only [q, q0]
    rcases hr with e | e | e | e | e | e | e | e <;> rw [e] <;> simp (config := { decide := true }) only [if_true, if_false, Int.reducePow, Int.pow_zero] <;> omega
  · rw [if_neg h]
    have : ∀ t, t < 8 → 8 * j + t ≠ B.length := by omega
    rw [if_neg (by simpa using this 0 (by omega)), if_neg (this 1 (by omega)), if_neg (this 2 (by omega)), if_neg (this 3 (by omega)), if_neg (this 4 (by omega)), if_neg (this 5 (by omega)), if_neg (this 6 (by omega)), if_neg (this 7 (by omega))]
    omega
theorem byteAt_range {B : List Int} (hB : ∀ b ∈ B, b = 0 ∨ b = 1) (j : Nat) : 0 ≤ byteAt B j ∧ byteAt B j ≤ 255 := by
  unfold byteAt
  have g := getD_bit hB
  have g0 := g (8 * j); have g1 := g (8 * j + 1); have g2 := g (8 * j + 2); have g3 := g (8 * j + 3); have g4 := g (8 * j + 4); have g5 := g (8 * j + 5); have g6 := g (8 * j + 6); have g7 := g (8 * j + 7)
  omega
theorem byteAt_last {B : List Int} (hB : ∀ b ∈ B, b = 0 ∨ b = 1) : byteAt B (B.length / 8) < 2 ^ (B.length % 8) := by
  unfold byteAt
  have g := getD_bit hB
  have o := fun m => getD_out B (m := m)
  generalize hj : B.length / 8 = j
  have g0 := g (8 * j); have g1 := g (8 * j + 1); have g2 := g (8 * j + 2); have g3 := g (8 * j + 3); have g4 := g (8 * j + 4); have g5 := g (8 * j + 5); have g6 := g (8 * j + 6); have g7 := g (8 * j + 7)
  have o0 := o (8 * j); have o1 := o (8 * j + 1); have o2 := o (8 * j + 2); have o3 := o (8 * j + 3); have o4 := o (8 * j + 4); have o5 := o (8 * j + 5); have o6 := o (8 * j + 6); have o7 := o (8 * j + 7)
  have hr : B.length % 8 = 0 ∨ B.length % 8 = 1 ∨ B.length % 8 = 2 ∨ B.length % 8 = 3 ∨ B.length % 8 = 4 ∨ B.length % 8 = 5 ∨ B.length % 8 = 6 ∨ B.length % 8 = 7 := by omega
  rcases hr with e | e | e | e | e | e | e | e <;> rw [e] <;> simp only [Int.reducePow, Int.pow_zero] <;> omega
theorem byteAt_out (B : List Int) {j : Nat} (h : B.length ≤ 8 * j) : byteAt B j = 0 := by
  unfold byteAt
  rw [getD_out B (by omega), getD_out B (by omega), getD_out B (by omega), getD_out B (by omega), getD_out B (by omega), getD_out B (by omega), getD_out B (by omega), getD_out B (by omega)]; rfl
theorem packB_range {B : List Int} (hB : ∀ b ∈ B, b = 0 ∨ b = 1) : ∀ x ∈ packB B, 0 ≤ x ∧ x ≤ 255 := by
  intro x hx
  obtain ⟨j, _, rfl⟩ := List.mem_map.1 hx
  exact byteAt_range hB j

/-- One bit more, in bytes that hold all so far (and zeros behind). -/
theorem map_set (B : List Int) (b : Int) (n : Nat) (h : B.length / 8 < n) :
    ((List.range n).map (byteAt B)).set (B.length / 8) (byteAt B (B.length / 8) + b * 2 ^ (B.length % 8)) = (List.range n).map (byteAt (B ++ [b])) := by
  apply List.ext_getElem?
  intro j
  rw [List.getElem?_set]
  by_cases e : B.length / 8 = j
  · subst e
    simp [h, byteAt_snoc]
  · rw [if_neg e]
    simp only [List.getElem?_map]
    rcases Nat.lt_or_ge j n with hj | hj
    · rw [List.getElem?_range hj]
      simp only [Option.map_some, byteAt_snoc]; rw [if_neg (fun h : j = B.length / 8 => e h.symm)]; simp
    · rw [List.getElem?_eq_none (by simpa using hj)]; rfl
theorem map_same (B : List Int) (n : Nat) : (List.range n).map (byteAt (B ++ [0])) = (List.range n).map (byteAt B) := by
  apply List.map_congr_left
  intro j _
  rw [byteAt_snoc]; split <;> omega
theorem packB_zero (n : Nat) : (List.range n).map (byteAt []) = List.replicate n 0 := by
  apply List.ext_getElem?
  intro j
  simp only [List.getElem?_map]
  rcases Nat.lt_or_ge j n with hj | hj
  · rw [List.getElem?_range hj]; simp [hj, byteAt]
  · rw [List.getElem?_eq_none (by simpa using hj)]; simp [hj]
end Go.Proofs.Ytpibhiacmceekaa.Px

namespace Go.Proofs.Ytpibhiacmceekaa.L1
set_option linter.unusedVariables false
set_option linter.unusedSimpArgs false
open Go.RowKit Go.Proofs.Ytpibhiacmceekaa.X Go.Proofs.YtpibhiacmceekaaW.PrintWords Go.Proofs.YtpibhiacmceekaaW.PrintLast Go.Proofs.YtpibhiacmceekaaW.PrintMore Go.Proofs.Ytpibhiacmceekaa.Bx Go.Proofs.Ytpibhiacmceekaa.Nx Go.Proofs.Ytpibhiacmceekaa.Px

/-! ### sizes -/
def SizeR (w n : Int) : Int × Int := if w < 0 ∨ w > 64 ∨ n < 0 then (0, 2) else if n > 1048576 ∨ (n * w + 7) / 8 > 1048576 then (0, 3) else ((n * w + 7) / 8, 0)
theorem size_j (k : Nat) (w n : Int) (hw : 0 ≤ w) (hw1 : w ≤ 64) (hn : 0 ≤ n) : bits_Size.j0 (k + 1) w n false = some (SizeR w n) := by
  simp only [bits_Size.j0, Bool.false_eq_true, if_false]
  unfold SizeR
  rw [if_neg (by omega : ¬ (w < 0 ∨ w > 64 ∨ n < 0))]
  by_cases c : n > 1048576
  · rw [if_pos c, if_pos (.inl c)]
  · have h1 : 0 ≤ n * w := Int.mul_nonneg hn hw
    have h2 : n * w ≤ 1048576 * 64 := Int.mul_le_mul (by omega) hw1 hw (by omega)
    have a1 : wrap64 (n * w) = n * w := w64 (by omega) (by omega)
    have a2 : wrap64 (n * w + 7) = n * w + 7 := w64 (by omega) (by omega)
    have a3 : wrap64 (Int.tdiv (n * w + 7) 8) = (n * w + 7) / 8 := by rw [Int.tdiv_eq_ediv_of_nonneg (by omega)]; exact w64 (by omega) (by omega)
    rw [if_neg c, a1, a2, a3]
    by_cases d : (n * w + 7) / 8 > 1048576
    · rw [if_pos d, if_pos (.inr d)]
    · rw [if_neg d, if_neg (by omega)]
theorem size {k : Nat} {w n : Int} (hk : 1 ≤ k) : bits_Size.f k w n = some (SizeR w n) := by
  obtain ⟨k, rfl⟩ : ∃ j, k = j + 1 := ⟨k - 1, by omega⟩
  unfold bits_Size.f
  by_cases c0 : w < 0
  · rw [if_pos c0]; simp [bits_Size.j0, SizeR, c0]
  rw [if_neg c0]
  by_cases c1 : w > 64
  · rw [if_pos c1]; simp [bits_Size.j0, SizeR]; omega
  rw [if_neg c1]
  by_cases c2 : n < 0
  · rw [decide_eq_true c2]; simp [bits_Size.j0, SizeR]; omega
  · rw [decide_eq_false c2]; exact size_j k w n (by omega) (by omega) (by omega)
theorem ref_size_same (k : Nat) (w n : Int) : marquetryref01_Size.f k w n = bits_Size.f k w n := by
  have j : ∀ k x y z, marquetryref01_Size.j0 k x y z = bits_Size.j0 k x y z := by
    intro k; cases k <;> intros <;> rfl
  unfold bits_Size.f marquetryref01_Size.f; simp only [j]
theorem ref_size {k : Nat} {w n : Int} (hk : 1 ≤ k) : marquetryref01_Size.f k w n = some (SizeR w n) := by rw [ref_size_same, size hk]

/-! ### the program -/
theorem pkv_eq {n x u : Int} {i : Nat} {r : Nat} (hn0 : 0 ≤ n) (hn1 : n ≤ 18446744073709551615) (hu : u = (r : Int)) (hr : r < 8) (hx0 : 0 ≤ x) (hx : x < 2 ^ r) :
    pkv n (i : Int) x u = x + (n / 2 ^ i % 2) * 2 ^ r := by
  unfold pkv
  subst hu
  have hp : (0 : Int) < 2 ^ i := Int.pow_pos (by decide)
  have hd0 : 0 ≤ n / 2 ^ i := Int.ediv_nonneg hn0 (by omega)
  have hd1 : n / 2 ^ i ≤ 18446744073709551615 := by
    have := Int.ediv_le_self (2 ^ i) hn0; omega
  rw [show ((i : Int)).toNat = i from rfl, show ((r : Int)).toNat = r from rfl, and_one_u64 _ hd0 hd1]
  generalize n / 2 ^ i = m at hd0 hd1
  have hr' : r = 0 ∨ r = 1 ∨ r = 2 ∨ r = 3 ∨ r = 4 ∨ r = 5 ∨ r = 6 ∨ r = 7 := by omega
  have hpr : (2 : Int) ^ r ≤ 128 := by rcases hr' with rfl | rfl | rfl | rfl | rfl | rfl | rfl | rfl <;> decide
  have hb : m % 2 % 256 * 2 ^ r % 256 = m % 2 * 2 ^ r := by
    rcases hr' with rfl | rfl | rfl | rfl | rfl | rfl | rfl | rfl <;> simp only [Int.reducePow] <;> omega
  rw [hb]
  have h0 : 0 ≤ m % 2 * 2 ^ r := Int.mul_nonneg (by omega) (by omega)
  have h1 : m % 2 * 2 ^ r ≤ 1 * 2 ^ r := Int.mul_le_mul_of_nonneg_right (by omega) (by omega)
  obtain ⟨a, rfl⟩ := Int.eq_ofNat_of_zero_le hx0
  obtain ⟨b, hb2⟩ := Int.eq_ofNat_of_zero_le h0
  have j := bits_join .u8 8 (by decide) wraps_u8 r (m % 2 * 2 ^ r) a h0 (Int.mul_emod_left _ _) (by omega) hx0 hx (by omega)
  have c := (bits_nat .u8 8 (by decide) wraps_u8 a b (by omega) (by omega)).2
  have d := (bits_nat .u8 8 (by decide) wraps_u8 b a (by omega) (by omega)).2
  rw [Nat.or_comm] at c
  rw [hb2] at j ⊢
  have : bits .or .u8 (a : Int) (b : Int) = bits .or .u8 (b : Int) (a : Int) := c.trans d.symm
  omega
/-- Where a byte ends, a new one; else the same: the bytes up to the place of the next bit. -/
theorem packB_grow (B : List Int) : (if B.length % 8 = 0 then packB B ++ [0] else packB B) = (List.range (B.length / 8 + 1)).map (byteAt B) := by
  split
  · rename_i h
    unfold packB
    rw [show (B.length + 7) / 8 = B.length / 8 by omega, List.range_succ, List.map_append]
    simp [byteAt_out B (show B.length ≤ 8 * (B.length / 8) by omega)]
  · unfold packB
    rw [show (B.length + 7) / 8 = B.length / 8 + 1 by omega]
theorem rd_map (B : List Int) (n j : Nat) (h : j < n) : rd ((List.range n).map (byteAt B)) (j : Int) = byteAt B j := by
  unfold rd
  rw [List.getD_eq_getElem?_getD, List.getElem?_map, show ((j : Int)).toNat = j from rfl, List.getElem?_range h]; rfl
theorem pkb_eq {n : Int} {i : Nat} {B : List Int} (hB : ∀ b ∈ B, b = 0 ∨ b = 1) (hn0 : 0 ≤ n) (hn1 : n ≤ 18446744073709551615) :
    pkb n (i : Int) ((List.range (B.length / 8 + 1)).map (byteAt B)) ((B.length % 8 : Nat) : Int) = packB (B ++ [n / 2 ^ i % 2]) := by
  unfold pkb
  have hl : ((List.range (B.length / 8 + 1)).map (byteAt B)).length = B.length / 8 + 1 := by simp
  rw [hl, show (((B.length / 8 + 1 : Nat) : Int) - 1) = ((B.length / 8 : Nat) : Int) by omega, show B.length / 8 + 1 - 1 = B.length / 8 by omega, rd_map B _ _ (by omega),
    pkv_eq hn0 hn1 rfl (by omega) (byteAt_range hB _).1 (byteAt_last hB), map_set B _ _ (by omega)]
  unfold packB
  rw [List.length_append, List.length_singleton, show (B.length + 1 + 7) / 8 = B.length / 8 + 1 by omega]
theorem pkl_eq : ∀ (d : Nat) (k : Nat) (n : Int) (i : Nat) (B : List Int), (∀ b ∈ B, b = 0 ∨ b = 1) → 0 ≤ n → n ≤ 18446744073709551615 → B.length + d < 7999990000 → d < k →
    pkl k n ((i + d : Nat) : Int) (i : Int) (packB B) ((B.length % 8 : Nat) : Int) = some (packB (B ++ bitsFrom n i d), (((B ++ bitsFrom n i d).length % 8 : Nat) : Int))
  | 0, k, n, i, B, hB, h0, h1, hl, hk => by
    obtain ⟨k, rfl⟩ : ∃ j, k = j + 1 := ⟨k - 1, by omega⟩
    simp only [pkl]
    rw [if_neg (by omega)]; simp [bitsFrom]
  | d + 1, k, n, i, B, hB, h0, h1, hl, hk => by
    obtain ⟨k, rfl⟩ : ∃ j, k = j + 1 := ⟨k - 1, by omega⟩
    have hB' : ∀ b ∈ B ++ [n / 2 ^ i % 2], b = 0 ∨ b = 1 := by
      intro b hb
      rcases List.mem_append.1 hb with hb | hb
      · exact hB b hb
      · rw [List.mem_singleton.1 hb]; omega
    have ih := pkl_eq d k n (i + 1) (B ++ [n / 2 ^ i % 2]) hB' h0 h1 (by simp; omega) (by omega)
    rw [show i + 1 + d = i + (d + 1) by omega, List.append_assoc] at ih
    have e : [n / 2 ^ i % 2] ++ bitsFrom n (i + 1) d = bitsFrom n i (d + 1) := rfl
    rw [e, List.length_append, List.length_singleton] at ih
    have hg := packB_grow B
    simp only [pkl]
    rw [if_pos (by omega)]
    have hu : ((((B.length % 8 : Nat) : Int) + 1) % 8) = (((B.length + 1) % 8 : Nat) : Int) := by omega
    have hi : (i : Int) + 1 = ((i + 1 : Nat) : Int) := by omega
    have hpl := packB_length B
    by_cases c : B.length % 8 = 0
    · rw [if_pos c] at hg
      rw [if_pos (by omega), if_pos (by omega), hg, pkb_eq hB h0 h1, hu, hi]; exact ih
    · rw [if_neg c] at hg
      rw [if_neg (by omega), if_pos (by omega)]
      rw [show packB B = (List.range (B.length / 8 + 1)).map (byteAt B) from hg, pkb_eq hB h0 h1, hu, hi]; exact ih
theorem pks_eq : ∀ (l : List Int) (k : Nat) (w : Nat) (B : List Int), (∀ b ∈ B, b = 0 ∨ b = 1) → (∀ x ∈ l, 0 ≤ x ∧ x ≤ 18446744073709551615) → B.length + l.length * w + w < 7999990000 → w < k →
    pks k (w : Int) l (packB B) ((B.length % 8 : Nat) : Int) = some (packB (B ++ allBits w l), (((B ++ allBits w l).length % 8 : Nat) : Int))
  | [], k, w, B, hB, hl, hs, hk => by simp [pks, allBits]
  | x :: l, k, w, B, hB, hl, hs, hk => by
    have hx := hl x (by simp)
    have h1 := pkl_eq w k x 0 B hB hx.1 hx.2 (by rw [List.length_cons, Nat.add_mul] at hs; omega) hk
    rw [Nat.zero_add] at h1
    rw [pks, show (0 : Int) = ((0 : Nat) : Int) from rfl, h1, Option.bind_some]
    rw [if_pos (by constructor <;> (simp only; omega))]
    have hB' : ∀ b ∈ B ++ bitsFrom x 0 w, b = 0 ∨ b = 1 := by
      intro b hb
      rcases List.mem_append.1 hb with hb | hb
      · exact hB b hb
      · exact bitsFrom_range x w 0 b hb
    have ih := pks_eq l k w (B ++ bitsFrom x 0 w) hB' (fun y hy => hl y (by simp [hy])) (by rw [List.length_cons, Nat.add_mul] at hs; rw [List.length_append, bitsFrom_length]; omega) hk
    rw [List.append_assoc, ← allBits_cons] at ih
    exact ih
theorem pkc_eq : ∀ (l : List Int) (k : Nat) (w : Int), 65 ≤ k → (∀ x ∈ l, 0 ≤ x ∧ x ≤ 18446744073709551615) → pkc k w l = some (decide (∀ x ∈ l, (wd x.toNat : Int) ≤ w))
  | [], k, w, hk, hl => by simp [pkc]
  | x :: l, k, w, hk, hl => by
    have hx := hl x (by simp)
    rw [pkc, width hk hx.1 hx.2, Option.bind_some, pkc_eq l k w hk (fun y hy => hl y (by simp [hy]))]
    by_cases c : (wd x.toNat : Int) > w
    · rw [if_pos c, decide_eq_false (by intro h; have := h x (by simp); omega)]
    · rw [if_neg c]
      congr 1
      rw [decide_eq_decide]
      simp only [List.mem_cons, forall_eq_or_imp]
      constructor
      · intro h; exact ⟨by omega, h⟩
      · intro h; exact h.2
def PackR (w : Int) (l : List Int) : List Int × Int :=
  if w < 0 ∨ w > 64 then ([], 2) else if ∀ x ∈ l, (wd x.toNat : Int) ≤ w then (if (SizeR w l.length).2 = 0 then (packB (allBits w.toNat l), 0) else ([], (SizeR w l.length).2)) else ([], 2)
theorem SizeR_ok {w n : Int} (h : (SizeR w n).2 = 0) : 0 ≤ w ∧ w ≤ 64 ∧ 0 ≤ n ∧ n ≤ 1048576 ∧ (SizeR w n).1 = (n * w + 7) / 8 ∧ (n * w + 7) / 8 ≤ 1048576 := by
  unfold SizeR at h ⊢
  split at h
  · simp at h
  · rename_i h1
    rw [if_neg h1]
    split at h
    · simp at h
    · rename_i h2
      rw [if_neg h2]
      exact ⟨by omega, by omega, by omega, by omega, rfl, by omega⟩
theorem pack {k : Nat} {w : Int} {l : List Int} (hk : 66 ≤ k) (hl : ∀ x ∈ l, 0 ≤ x ∧ x ≤ 18446744073709551615) : bits_Pack.f k w l = some (PackR w l) := by
  unfold bits_Pack.f PackR
  by_cases c0 : w < 0
  · rw [if_pos c0, if_pos (.inl c0)]
  rw [if_neg c0]
  by_cases c1 : w > 64
  · rw [if_pos c1, if_pos (.inr c1)]
  rw [if_neg c1, if_neg (by omega), pkc_eq l k w (by omega) hl, Option.bind_some]
  by_cases c2 : ∀ x ∈ l, (wd x.toNat : Int) ≤ w
  · rw [decide_eq_true c2, if_pos rfl, if_pos c2, size (by omega), Option.bind_some]
    by_cases c3 : (SizeR w l.length).2 = 0
    · obtain ⟨h1, h2, h3, h4, h5, h6⟩ := SizeR_ok c3
      rw [if_pos c3, if_pos c3]
      obtain ⟨W, rfl⟩ := Int.eq_ofNat_of_zero_le h1
      have hm : ((l.length * W : Nat) : Int) = (l.length : Int) * (W : Int) := Int.natCast_mul _ _
      have := pks_eq l k W [] (by simp) hl (by simp; omega) (by omega)
      simp only [List.length_nil, Nat.zero_mod, List.nil_append] at this
      have e : packB [] = [] := rfl
      rw [e] at this
      have z : ((0 : Nat) : Int) = 0 := rfl
      rw [z] at this
      rw [this, Option.bind_some]; rfl
    · rw [if_neg c3, if_neg c3]
  · rw [decide_eq_false c2, if_neg (by decide), if_neg c2]

/-! ### the reference -/
theorem powers_l : ∀ (k : Nat) (r i : Nat), i ≤ r → r < 8 → r - i < k → marquetryref01_powers.l0 k (r : Int) (2 ^ i) (i : Int) = some (2 ^ r)
  | 0, _, _, _, _, h => absurd h (by omega)
  | k + 1, r, i, hi, hr, h => by
    simp only [marquetryref01_powers.l0]
    by_cases c : i < r
    · have hp : (2 : Int) ^ i * 2 % 256 = 2 ^ (i + 1) := by
        have : i = 0 ∨ i = 1 ∨ i = 2 ∨ i = 3 ∨ i = 4 ∨ i = 5 ∨ i = 6 := by omega
        rcases this with rfl | rfl | rfl | rfl | rfl | rfl | rfl <;> decide
      rw [if_pos (by omega), hp, w64 (by omega) (by omega)]
      exact powers_l k r (i + 1) (by omega) hr (by omega)
    · rw [if_neg (by omega), show i = r by omega]
theorem powers {k : Nat} {r : Nat} (hk : 9 ≤ k) (hr : r < 8) : marquetryref01_powers.f k (r : Int) = some (2 ^ r) := by
  unfold marquetryref01_powers.f
  have := powers_l k r 0 (by omega) hr (by omega)
  simpa using this
theorem w64n {n : Nat} (h : n ≤ 1000000000) : wrap64 (n : Int) = n := by unfold wrap64; omega
theorem len_le {P c d W n : Nat} (hc : c + (d + 1) = W) (hW : W ≤ 64) (hi : P ≤ 100000000) (hl : n = P + c) : n ≤ 1000000000 := by omega
theorem div_pow {x y : Int} {c : Nat} (hx : x = y / 2 ^ c) : x / 2 = y / 2 ^ (c + 1) := by
  have hp : (0 : Int) ≤ 2 ^ c := Int.le_of_lt (Int.pow_pos (by decide))
  rw [hx, Int.pow_succ, Int.ediv_ediv_of_nonneg hp]
theorem w64d {n : Nat} (h : n ≤ 1000000000) : wrap64 (Int.tdiv (n : Int) 8) = ((n / 8 : Nat) : Int) := by rw [Int.tdiv_eq_ediv_of_nonneg (by omega)]; unfold wrap64; omega
theorem tmod8 {n : Nat} : Int.tmod (n : Int) 8 = ((n % 8 : Nat) : Int) := by rw [Int.tmod_eq_emod_of_nonneg (by omega)]; omega
theorem w64s {n : Nat} (h : n + 1 ≤ 1000000000) : wrap64 ((n : Int) + 1) = ((n + 1 : Nat) : Int) := by unfold wrap64; omega
theorem ref_l2 : ∀ (d : Nat) (k : Nat) (P W : Nat) (l : List Int) (n : Nat) (i c : Nat) (y : Int) (x : Int) (B : List Int), (∀ b ∈ B, b = 0 ∨ b = 1) → c + d = W → W ≤ 64 → (P : Nat) = i * W → P ≤ 100000000 → B.length = P + c → (B.length + d + 7) / 8 ≤ n → 0 ≤ y → y ≤ 18446744073709551615 → x = y / 2 ^ c → 10 ≤ k →
    marquetryref01_Pack.l2 (k + d + 1) (W : Int) l ((List.range n).map (byteAt B)) (i : Int) x (c : Int) = marquetryref01_Pack.l1 k (W : Int) l ((List.range n).map (byteAt (B ++ bitsFrom y c d))) (wrap64 ((i : Int) + 1))
  | 0, k, P, W, l, n, i, c, y, x, B, hB, hc, hW, hP, hi, hl, hn, hy0, hy1, hx, hk => by
    rw [show k + 0 + 1 = k + 1 by omega]
    simp only [marquetryref01_Pack.l2]
    rw [if_neg (by omega)]; simp [bitsFrom]
  | d + 1, k, P, W, l, n, i, c, y, x, B, hB, hc, hW, hP, hi, hl, hn, hy0, hy1, hx, hk => by
    have hp : (0 : Int) < 2 ^ c := Int.pow_pos (by decide)
    have hx0 : 0 ≤ x := by rw [hx]; exact Int.ediv_nonneg hy0 (by omega)
    have hx1 : x ≤ 18446744073709551615 := by rw [hx]; have := Int.ediv_le_self (2 ^ c) hy0; omega
    have hm : (i : Int) * (W : Int) = (P : Int) := by rw [hP]; exact (Int.natCast_mul _ _).symm
    rw [show k + (d + 1) + 1 = (k + d + 1) + 1 by omega]
    have a0 : ((P : Int) + (c : Int)) = ((B.length : Nat) : Int) := by omega
    have hBl := len_le hc hW hi hl
    have hc64 : c + 1 ≤ 1000000000 := by omega
    have hcW : (c : Int) < (W : Int) := by omega
    rw [marquetryref01_Pack.l2, if_pos hcW, hm, w64n (Nat.le_trans hi (by decide)), a0, w64n hBl, w64d hBl, tmod8, w64s hc64, u64_tdiv 2 hx0 hx1 (by decide), Int.tmod_eq_emod_of_nonneg hx0]
    have hbit : y / 2 ^ c % 2 = x % 2 := by rw [hx]
    have hB' : ∀ b ∈ B ++ [y / 2 ^ c % 2], b = 0 ∨ b = 1 := by
      intro b hb
      rcases List.mem_append.1 hb with hb | hb
      · exact hB b hb
      · rw [List.mem_singleton.1 hb]; omega
    have ih := ref_l2 d k P W l n i (c + 1) y (x / 2) (B ++ [y / 2 ^ c % 2]) hB' (by omega) hW hP hi (by simp; omega) (by simp; omega) hy0 hy1 (div_pow hx) hk
    rw [List.append_assoc] at ih
    have e : [y / 2 ^ c % 2] ++ bitsFrom y (c + 1) d = bitsFrom y c (d + 1) := rfl
    rw [e] at ih
    have hlen : ((List.range n).map (byteAt B)).length = n := by simp
    by_cases h1 : x % 2 = 1
    · rw [if_pos h1, if_pos (by omega), if_pos (by rw [hlen]; omega), powers (by omega) (by omega), Option.bind_some, rd_map B n _ (by omega)]
      have hb1 := byteAt_range hB (B.length / 8)
      have hb2 := byteAt_last hB
      have hr8 : B.length % 8 = 0 ∨ B.length % 8 = 1 ∨ B.length % 8 = 2 ∨ B.length % 8 = 3 ∨ B.length % 8 = 4 ∨ B.length % 8 = 5 ∨ B.length % 8 = 6 ∨ B.length % 8 = 7 := by omega
      have hpr : (2 : Int) ^ (B.length % 8) ≤ 128 := by rcases hr8 with h | h | h | h | h | h | h | h <;> rw [h] <;> decide
      have hpr0 : (0 : Int) < 2 ^ (B.length % 8) := Int.pow_pos (by decide)
      have hms := map_set B 1 n (by omega)
      rw [Int.one_mul] at hms
      rw [show (byteAt B (B.length / 8) + 2 ^ (B.length % 8)) % 256 = byteAt B (B.length / 8) + 2 ^ (B.length % 8) by omega, show (((B.length / 8 : Nat) : Int)).toNat = B.length / 8 from rfl, hms]
      rw [hbit, h1] at ih
      exact ih
    · rw [if_neg h1]
      have h0 : x % 2 = 0 := by omega
      rw [hbit, h0] at ih
      rw [map_same] at ih
      exact ih
theorem ref_l1 : ∀ (l1 : List Int) (k : Nat) (W : Nat) (l l0 : List Int) (n : Nat), l = l0 ++ l1 → (∀ x ∈ l, 0 ≤ x ∧ x ≤ 18446744073709551615) → W ≤ 64 → l.length ≤ 1048576 → (l.length * W + 7) / 8 ≤ n → l1.length * (W + 2) + 11 ≤ k →
    marquetryref01_Pack.l1 k (W : Int) l ((List.range n).map (byteAt (allBits W l0))) (l0.length : Int) = some ((List.range n).map (byteAt (allBits W l)), 0)
  | [], k, W, l, l0, n, he, hl, hW, hlen, hn, hk => by
    obtain ⟨k, rfl⟩ : ∃ j, k = j + 1 := ⟨k - 1, by omega⟩
    simp only [marquetryref01_Pack.l1]
    rw [List.append_nil] at he
    subst he
    rw [if_neg (by omega)]
  | x :: l1, k, W, l, l0, n, he, hl, hW, hlen, hn, hk => by
    have hll : l.length = l0.length + (l1.length + 1) := by rw [he]; simp
    have hmw : l0.length * W + W ≤ l.length * W := by
      have := Nat.mul_le_mul_right W (show l0.length + 1 ≤ l.length by omega)
      rw [Nat.add_mul] at this; omega
    have hmb : l.length * W ≤ 1048576 * 64 := Nat.mul_le_mul hlen hW
    have hkk : (x :: l1).length * (W + 2) = l1.length * (W + 2) + (W + 2) := by rw [List.length_cons, Nat.add_mul]; omega
    rw [hkk] at hk
    obtain ⟨k', rfl⟩ : ∃ j, k = (j + W + 1) + 1 := ⟨k - W - 2, by omega⟩
    have hx := hl x (by rw [he]; simp)
    have hrd : rd l (l0.length : Int) = x := by
      unfold rd
      rw [he, List.getD_eq_getElem?_getD, show ((l0.length : Int)).toNat = l0.length from rfl, List.getElem?_append_right (Nat.le_refl _)]; simp
    simp only [marquetryref01_Pack.l1]
    rw [if_pos (by omega), if_pos (by omega), hrd, show (0 : Int) = ((0 : Nat) : Int) from rfl]
    rw [ref_l2 W k' (l0.length * W) W l n l0.length 0 x x (allBits W l0) (allBits_range W l0) (by omega) hW rfl (by omega) (by rw [allBits_length]; omega) (by rw [allBits_length]; omega) hx.1 hx.2 (by simp) (by omega), w64 (by omega) (by omega)]
    have e : allBits W l0 ++ bitsFrom x 0 W = allBits W (l0 ++ [x]) := by simp [allBits]
    have ih := ref_l1 l1 k' W l (l0 ++ [x]) n (by rw [he]; simp) hl hW hlen hn (by omega)
    rw [List.length_append, List.length_singleton] at ih
    rw [e, show (l0.length : Int) + 1 = ((l0.length + 1 : Nat) : Int) by omega]
    exact ih
theorem ref_l0 : ∀ (l1 : List Int) (k : Nat) (w : Int) (l l0 : List Int), l = l0 ++ l1 → (∀ x ∈ l, 0 ≤ x ∧ x ≤ 18446744073709551615) → 0 ≤ w → w ≤ 64 → l.length ≤ 1099511627776 → l1.length + l.length * (w.toNat + 2) + 80 ≤ k → (∀ x ∈ l0, (wd x.toNat : Int) ≤ w) →
    marquetryref01_Pack.l0 k w l (l0.length : Int) = some (PackR w l)
  | [], k, w, l, l0, he, hl, hw0, hw1, hlen, hk, hok => by
    obtain ⟨k, rfl⟩ : ∃ j, k = j + 1 := ⟨k - 1, by omega⟩
    rw [List.append_nil] at he
    subst he
    simp only [marquetryref01_Pack.l0]
    rw [if_neg (by omega), ref_size (by omega), Option.bind_some]
    unfold PackR
    rw [if_neg (by omega : ¬ (w < 0 ∨ w > 64)), if_pos hok]
    by_cases c3 : (SizeR w l.length).2 = 0
    · obtain ⟨h1, h2, h3, h4, h5, h6⟩ := SizeR_ok c3
      obtain ⟨W, rfl⟩ := Int.eq_ofNat_of_zero_le h1
      have hm : ((l.length * W : Nat) : Int) = (l.length : Int) * (W : Int) := Int.natCast_mul _ _
      have h7 : 0 ≤ (l.length : Int) * (W : Int) := by omega
      rw [if_pos c3, if_pos (by omega), if_pos (by omega), if_pos c3, h5]
      have := ref_l1 l k W l [] (((l.length : Int) * (W : Int) + 7) / 8).toNat rfl hl (by omega) (by omega) (by omega) (by simp at hk; omega)
      have e : allBits W [] = [] := rfl
      rw [e, packB_zero] at this
      refine Eq.trans (show _ = _ from this) ?_
      congr 2
      unfold packB
      rw [allBits_length]
      congr 2
    · rw [if_neg c3, if_neg c3]
  | x :: l1, k, w, l, l0, he, hl, hw0, hw1, hlen, hk, hok => by
    obtain ⟨k, rfl⟩ : ∃ j, k = j + 1 := ⟨k - 1, by omega⟩
    have hll : l.length = l0.length + (l1.length + 1) := by rw [he]; simp
    have hx := hl x (by rw [he]; simp)
    have hrd : rd l (l0.length : Int) = x := by
      unfold rd
      rw [he, List.getD_eq_getElem?_getD, show ((l0.length : Int)).toNat = l0.length from rfl, List.getElem?_append_right (Nat.le_refl _)]; simp
    simp only [marquetryref01_Pack.l0]
    rw [if_pos (by omega), if_pos (by omega), hrd, ref_width (by simp at hk; omega) hx.1 hx.2, Option.bind_some]
    by_cases c : (wd x.toNat : Int) > w
    · rw [if_pos c]
      unfold PackR
      rw [if_neg (by omega : ¬ (w < 0 ∨ w > 64)), if_neg (by intro h; have := h x (by rw [he]; simp); omega)]
    · rw [if_neg c, w64 (by omega) (by omega)]
      have ih := ref_l0 l1 k w l (l0 ++ [x]) (by rw [he]; simp) hl hw0 hw1 hlen (by simp at hk; omega) (by
        intro y hy
        rcases List.mem_append.1 hy with hy | hy
        · exact hok y hy
        · rw [List.mem_singleton.1 hy]; omega)
      rw [List.length_append, List.length_singleton] at ih
      rw [show (l0.length : Int) + 1 = ((l0.length + 1 : Nat) : Int) by omega]
      exact ih
theorem ref_pack {k : Nat} {w : Int} {l : List Int} (hk : l.length * 67 + 82 ≤ k) (hl : ∀ x ∈ l, 0 ≤ x ∧ x ≤ 18446744073709551615) (hlen : l.length ≤ 1099511627776) : marquetryref01_Pack.f k w l = some (PackR w l) := by
  obtain ⟨k, rfl⟩ : ∃ j, k = j + 1 := ⟨k - 1, by omega⟩
  unfold marquetryref01_Pack.f
  simp only [marquetryref01_Pack.j0]
  by_cases c0 : w < 0
  · rw [if_pos c0, if_pos trivial]; unfold PackR; rw [if_pos (.inl c0)]
  rw [if_neg c0]
  by_cases c1 : w > 64
  · rw [if_pos (by simpa using c1)]; unfold PackR; rw [if_pos (.inr c1)]
  rw [if_neg (by simpa using c1)]
  have hmul : l.length * (w.toNat + 2) ≤ l.length * 66 := Nat.mul_le_mul_left _ (by omega)
  have := ref_l0 l k w l [] rfl hl (by omega) (by omega) hlen (by omega) (by simp)
  simpa using this
end Go.Proofs.Ytpibhiacmceekaa.L1

namespace Go.Proofs.Ytpibhiacmceekaa.L11
set_option linter.unusedVariables false
set_option linter.unusedSimpArgs false
open Go.RowKit Go.Proofs.Ytpibhiacmceekaa.X Go.Proofs.YtpibhiacmceekaaW.PrintWords Go.Proofs.YtpibhiacmceekaaW.PrintLast Go.Proofs.YtpibhiacmceekaaW.PrintMore Go.Proofs.Ytpibhiacmceekaa.Bx Go.Proofs.Ytpibhiacmceekaa.Nx Go.Proofs.Ytpibhiacmceekaa.L1 Go.Proofs.Ytpibhiacmceekaa.Px

/-- The bytes of numbers. -/
def toldS (W : Nat) : Nat → List Int → List Int
  | 0, _ => []
  | f + 1, l => if l.length = 0 then [] else if 8 ≤ sameN l then vb (2 * sameN l) ++ (LittleR (l.getD 0 0) (((W + 7) / 8 : Nat) : Int)).1 ++ toldS W f (l.drop (sameN l))
    else vb ((packsN l l.length 0 + 7) / 8 * 2 + 1) ++ (PackR (W : Int) (fillN (l.take (packsN l l.length 0)) ((packsN l l.length 0 + 7) / 8 * 8))).1 ++ toldS W f (l.drop (packsN l l.length 0))
theorem packsN_le (l : List Int) : ∀ (f n : Nat), n ≤ l.length → packsN l f n ≤ l.length
  | 0, n, h => h
  | f + 1, n, h => by
    unfold packsN
    split
    · split
      · omega
      · split
        · omega
        · exact packsN_le l f (n + 8) (by omega)
    · exact h
theorem packsN_ge (l : List Int) : ∀ (f n : Nat), n ≤ l.length → n ≤ packsN l f n
  | 0, n, h => Nat.le_refl _
  | f + 1, n, h => by
    unfold packsN
    split
    · split
      · omega
      · split
        · omega
        · have := packsN_ge l f (n + 8) (by omega); omega
    · omega
theorem packsN_pos {l : List Int} (h : 0 < l.length) : 1 ≤ packsN l l.length 0 := by
  obtain ⟨f, hf⟩ : ∃ f, l.length = f + 1 := ⟨l.length - 1, by omega⟩
  rw [hf]
  unfold packsN
  rw [if_pos (by omega)]
  split
  · omega
  · split
    · omega
    · have := packsN_ge l f (0 + 8) (by omega); omega
theorem LittleR_len (n m : Int) : (LittleR n m).1.length ≤ 8 := by
  unfold LittleR
  split
  · simp
  · simp only [leb_length]; omega
theorem PackR_len (w : Int) (l : List Int) : (PackR w l).1.length ≤ 1048576 := by
  unfold PackR
  split
  · simp
  · split
    · split
      · rename_i h1 h2 h3
        obtain ⟨q1, q2, q3, q4, q5, q6⟩ := SizeR_ok h3
        obtain ⟨V, rfl⟩ := Int.eq_ofNat_of_zero_le q1
        have hm : ((l.length * V : Nat) : Int) = (l.length : Int) * (V : Int) := Int.natCast_mul _ _
        simp only [packB_length, allBits_length, show ((V : Int)).toNat = V from rfl]
        omega
      · simp
    · simp
theorem wr_two {n : Nat} (h : n ≤ 100000000) : IntKind.u64.wrap (wrap64 (2 * (n : Int))) = ((2 * n : Nat) : Int) := by rw [w64 (by omega) (by omega), u64w]; omega
theorem wr_bytes {W : Nat} (h : W ≤ 64) : wrap64 (Int.tdiv (wrap64 ((W : Int) + 7)) 8) = (((W + 7) / 8 : Nat) : Int) := by
  rw [w64 (a := (W : Int) + 7) (by omega) (by omega), Int.tdiv_eq_ediv_of_nonneg (by omega), w64 (by omega) (by omega)]; omega
theorem wr_groups {n : Nat} (h : n ≤ 100000000) : wrap64 (wrap64 (Int.tdiv (wrap64 ((n : Int) + 7)) 8) * 8) = (((n + 7) / 8 * 8 : Nat) : Int) := by
  have a : wrap64 ((n : Int) + 7) = ((n + 7 : Nat) : Int) := w64a (m := 7) (by omega)
  have b : wrap64 (Int.tdiv ((n + 7 : Nat) : Int) 8) = (((n + 7) / 8 : Nat) : Int) := w64d (by omega)
  rw [a, b]
  clear a b
  rw [w64 (by omega) (by omega)]; omega
theorem wr_eighth {n : Nat} (h : n ≤ 100000000) : wrap64 ((((n + 7) / 8 * 8 : Nat) : Int) / 8) = (((n + 7) / 8 : Nat) : Int) := by rw [w64 (by omega) (by omega)]; omega
theorem wr_head {n : Nat} (h : n ≤ 100000000) : IntKind.u64.wrap (wrap64 (wrap64 (wrap64 ((((n + 7) / 8 * 8 : Nat) : Int) / 8) * 2) + 1)) = (((n + 7) / 8 * 2 + 1 : Nat) : Int) := by
  rw [wr_eighth h]
  obtain ⟨m, hm⟩ : ∃ m, m = (n + 7) / 8 := ⟨_, rfl⟩
  rw [← hm]
  have hm' : m ≤ 100000000 := by omega
  clear hm h
  have b : wrap64 ((m : Int) * 2) = ((m * 2 : Nat) : Int) := by rw [w64 (by omega) (by omega)]; omega
  rw [b, w64s' (by omega), u64w]; clear b; omega
theorem wr_head' {n : Nat} (h : n ≤ 100000000) : IntKind.u64.wrap (wrap64 (wrap64 (2 * wrap64 ((((n + 7) / 8 * 8 : Nat) : Int) / 8)) + 1)) = (((n + 7) / 8 * 2 + 1 : Nat) : Int) := by
  rw [Int.mul_comm 2]; exact wr_head h
theorem fill_range {xs : List Int} (M : Nat) (h : ∀ x ∈ xs, 0 ≤ x ∧ x ≤ 9223372036854775807) : ∀ x ∈ fillN xs M, 0 ≤ x ∧ x ≤ 18446744073709551615 := by
  intro x hx
  unfold fillN at hx
  rcases List.mem_append.1 hx with hx | hx
  · have := h x hx; omega
  · rw [(List.mem_replicate.1 hx).2]; omega
theorem first_range {l : List Int} (h : 0 < l.length) (hx : ∀ x ∈ l, 0 ≤ x ∧ x ≤ 9223372036854775807) : 0 ≤ l.getD 0 0 ∧ l.getD 0 0 ≤ 9223372036854775807 := by
  rw [List.getD_eq_getElem?_getD, List.getElem?_eq_getElem h]; exact hx _ (List.getElem_mem h)
/-- The bytes of a run, of a pack. -/
def runS (W : Nat) (l : List Int) : List Int := vb (2 * sameN l) ++ (LittleR (l.getD 0 0) (((W + 7) / 8 : Nat) : Int)).1
def packS (W n : Nat) (l : List Int) : List Int := vb ((n + 7) / 8 * 2 + 1) ++ (PackR (W : Int) (fillN (l.take n) ((n + 7) / 8 * 8))).1
theorem runS_len (W : Nat) (l : List Int) (h : l.length ≤ 100000) : (runS W l).length ≤ 20 := by
  have := sameN_le l
  have := LittleR_len (l.getD 0 0) (((W + 7) / 8 : Nat) : Int)
  have := vb_length64 (n := 2 * sameN l) (by omega)
  unfold runS; rw [List.length_append]; omega
theorem packS_len (W n : Nat) (l : List Int) (h : n ≤ 100000) : (packS W n l).length ≤ 1100000 := by
  have := PackR_len (W : Int) (fillN (l.take n) ((n + 7) / 8 * 8))
  have := vb_length64 (n := (n + 7) / 8 * 2 + 1) (by omega)
  unfold packS; rw [List.length_append]; omega
theorem prog_run (W : Nat) (hW : W ≤ 32) (l out : List Int) (k : Nat) (hl : l.length ≤ 100000) (hl0 : 0 < l.length) (hx : ∀ x ∈ l, 0 ≤ x ∧ x ≤ 9223372036854775807) (ho : out.length ≤ 1000000000000) (hk : l.length + 100 ≤ k) (d : 8 ≤ sameN l) :
    hybrid_Write.l1 (k + 1) (W : Int) l out = hybrid_Write.l1 k (W : Int) (l.drop (sameN l)) (out ++ runS W l) := by
  have hs := sameN_le l
  have hv := vb_length64 (n := 2 * sameN l) (by omega)
  have h0 := first_range hl0 hx
  have e2 : IntKind.u64.wrap (rd l 0) = l.getD 0 0 := by
    have : rd l 0 = l.getD 0 0 := rfl
    rw [this, u64w]; omega
  have hL := LittleR_len (l.getD 0 0) (((W + 7) / 8 : Nat) : Int)
  rw [hybrid_Write.l1, if_pos (by omega), same (by omega) (by omega), Option.bind_some, if_pos (by omega), wr_two (by omega), varint (by omega) (by omega) (by omega), Option.bind_some, show (((2 * sameN l : Nat) : Int)).toNat = 2 * sameN l from rfl, if_pos (by omega), Option.bind_some, if_pos (by omega), e2, wr_bytes (by omega), little (by omega) (by omega) (by omega), Option.bind_some, if_pos (by rw [List.length_append]; omega), if_pos (by omega), if_pos (by omega), show (((sameN l : Nat) : Int)).toNat = sameN l from rfl, List.append_assoc]
  rfl
theorem prog_pack (W : Nat) (hW : W ≤ 32) (l out : List Int) (k n : Nat) (hl : l.length ≤ 100000) (hl0 : 0 < l.length) (hx : ∀ x ∈ l, 0 ≤ x ∧ x ≤ 9223372036854775807) (ho : out.length ≤ 1000000000000) (hk : 2 * l.length + 100 ≤ k) (d : ¬ 8 ≤ sameN l) (hn : n = packsN l l.length 0) :
    hybrid_Write.l1 (k + 1 + n + 1) (W : Int) l out = hybrid_Write.l1 k (W : Int) (l.drop n) (out ++ packS W n l) := by
  have hn1 : n ≤ l.length := by rw [hn]; exact packsN_le l l.length 0 (by omega)
  rw [hybrid_Write.l1, if_pos (by omega), same (by omega) (by omega), Option.bind_some, if_neg (by omega), packs (by omega) (by omega), Option.bind_some, ← hn]
  clear hn d
  have htl : (l.take n).length = n := by rw [List.length_take]; omega
  have hxt : ∀ x ∈ l.take n, 0 ≤ x ∧ x ≤ 9223372036854775807 := fun x h => hx x (List.mem_of_mem_take h)
  have hfl := fill_l2 k (W : Int) l out (l.take n) (n : Int) ((n + 7) / 8 * 8) (by omega) (by omega) hxt n 0 (by omega)
  rw [List.take_zero, show fillN ([] : List Int) ((n + 7) / 8 * 8) = List.replicate ((n + 7) / 8 * 8) 0 by simp [fillN], show ((0 : Nat) : Int) = 0 from rfl] at hfl
  rw [wr_groups (by omega), if_pos (by omega), show ((((n + 7) / 8 * 8 : Nat) : Int)).toNat = (n + 7) / 8 * 8 from rfl, if_pos (by omega), if_pos (by omega), if_pos (by omega), show ((n : Int)).toNat = n from rfl, Option.bind_some, hfl]
  clear hfl
  have hM := fill_length (l.take n) ((n + 7) / 8 * 8) (by omega)
  have hxf := fill_range ((n + 7) / 8 * 8) hxt
  have hv := vb_length64 (n := (n + 7) / 8 * 2 + 1) (by omega)
  have hP := PackR_len (W : Int) (fillN (l.take n) ((n + 7) / 8 * 8))
  rw [hybrid_Write.l2, if_neg (by omega), hM, wr_head (by omega), varint (by omega) (by omega) (by omega), Option.bind_some, show ((((n + 7) / 8 * 2 + 1 : Nat) : Int)).toNat = (n + 7) / 8 * 2 + 1 from rfl, if_pos (by omega), Option.bind_some, pack (by omega) hxf, Option.bind_some, if_pos (by rw [List.length_append]; omega), if_pos (by omega), if_pos (by omega), show ((n : Int)).toNat = n from rfl, List.append_assoc]
  rfl
theorem prog_told (W : Nat) (hW : W ≤ 32) : ∀ (f : Nat) (l : List Int) (k : Nat) (out : List Int), l.length ≤ f → l.length ≤ 100000 → (∀ x ∈ l, 0 ≤ x ∧ x ≤ 9223372036854775807) → out.length + l.length * 2000000 ≤ 1000000000000 → 1000 + 5 * l.length ≤ k →
    hybrid_Write.l1 k (W : Int) l out = some (if ((out ++ toldS W f l).length : Int) > 1048576 then ([], 3) else (out ++ toldS W f l, 0))
  | 0, l, k, out, hf, hl, hx, ho, hk => by
    obtain ⟨k, rfl⟩ : ∃ j, k = j + 1 := ⟨k - 1, by omega⟩
    rw [hybrid_Write.l1, if_neg (by omega)]
    simp only [toldS, List.append_nil]
    split <;> rfl
  | f + 1, l, k, out, hf, hl, hx, ho, hk => by
    by_cases c : l.length = 0
    · obtain ⟨k, rfl⟩ : ∃ j, k = j + 1 := ⟨k - 1, by omega⟩
      rw [hybrid_Write.l1, toldS, if_neg (by omega), if_pos c, List.append_nil]
      split <;> rfl
    rw [toldS, if_neg c]
    by_cases d : 8 ≤ sameN l
    · obtain ⟨k, rfl⟩ : ∃ j, k = j + 1 := ⟨k - 1, by omega⟩
      have hr := runS_len W l hl
      have hd : (l.drop (sameN l)).length ≤ l.length - 8 := by rw [List.length_drop]; omega
      rw [prog_run W hW l out k hl (by omega) hx (by omega) (by omega) d, prog_told W hW f (l.drop (sameN l)) k (out ++ runS W l) (by omega) (by omega) (fun x h => hx x (List.mem_of_mem_drop h)) (by rw [List.length_append]; omega) (by omega), if_pos d, List.append_assoc]
      rfl
    · have hp1 := packsN_pos (l := l) (by omega)
      have hp2 := packsN_le l l.length 0 (by omega)
      rw [if_neg d]
      obtain ⟨n, hn⟩ : ∃ n, n = packsN l l.length 0 := ⟨_, rfl⟩
      rw [← hn] at hp1 hp2 ⊢
      obtain ⟨k, rfl⟩ : ∃ j, k = j + 1 + n + 1 := ⟨k - n - 2, by omega⟩
      have hr := packS_len W n l (by omega)
      have hd : (l.drop n).length = l.length - n := List.length_drop
      rw [prog_pack W hW l out k n hl (by omega) hx (by omega) (by omega) d hn, prog_told W hW f (l.drop n) k (out ++ packS W n l) (by omega) (by omega) (fun x h => hx x (List.mem_of_mem_drop h)) (by rw [List.length_append]; omega) (by omega), List.append_assoc]
      rfl
end Go.Proofs.Ytpibhiacmceekaa.L11

namespace Go.Proofs.Ytpibhiacmceekaa.L11
set_option linter.unusedVariables false
set_option linter.unusedSimpArgs false
open Go.RowKit Go.Proofs.Ytpibhiacmceekaa.X Go.Proofs.YtpibhiacmceekaaW.PrintWords Go.Proofs.YtpibhiacmceekaaW.PrintLast Go.Proofs.YtpibhiacmceekaaW.PrintMore Go.Proofs.Ytpibhiacmceekaa.Bx Go.Proofs.Ytpibhiacmceekaa.Nx Go.Proofs.Ytpibhiacmceekaa.L1 Go.Proofs.Ytpibhiacmceekaa.Px

/-- May numbers be told in W bits? -/
def okN (W : Nat) (l : List Int) : Prop := ∀ x ∈ l, 0 ≤ x ∧ wd x.toNat ≤ W
instance (W : Nat) (l : List Int) : Decidable (okN W l) := by unfold okN; exact inferInstance
/-- What Write answers. -/
def WriteR (w : Int) (l : List Int) : List Int × Int :=
  if w < 0 ∨ 32 < w then ([], 2) else if okN w.toNat l then (if 65536 < l.length then ([], 3) else if 1048576 < (toldS w.toNat l.length l).length then ([], 3) else (toldS w.toNat l.length l, 0)) else ([], 2)
theorem okN_cons {W : Nat} {x : Int} {l : List Int} : okN W (x :: l) ↔ (0 ≤ x ∧ wd x.toNat ≤ W) ∧ okN W l := by
  unfold okN
  constructor
  · intro h; exact ⟨h x (by simp), fun y hy => h y (by simp [hy])⟩
  · intro h y hy
    rcases List.mem_cons.1 hy with rfl | hy
    · exact h.1
    · exact h.2 y hy
theorem okN_drop {W : Nat} {l : List Int} {i : Nat} (h : i < l.length) : okN W (l.drop i) ↔ (0 ≤ l.getD i 0 ∧ wd (l.getD i 0).toNat ≤ W) ∧ okN W (l.drop (i + 1)) := by
  rw [drop_cons h, okN_cons]
theorem prog_checks (W : Nat) (hW : W ≤ 32) (l : List Int) (hl : l.length ≤ 100000) (hx : ∀ x ∈ l, -9223372036854775808 ≤ x ∧ x ≤ 9223372036854775807) : ∀ (d i k : Nat), i + d = l.length → 65 + d ≤ k →
    hybrid_Write.l0 (k + 1) (W : Int) l l (l.length : Int) (i : Int) = if okN W (l.drop i) then hybrid_Write.l0 (k + 1 - d) (W : Int) l l (l.length : Int) (l.length : Int) else some ([], 2)
  | 0, i, k, hi, hk => by
    rw [Nat.add_zero] at hi
    rw [hi, List.drop_eq_nil_of_le (by omega), if_pos (by simp [okN])]; rfl
  | d + 1, i, k, hi, hk => by
    have hr : rd l (i : Int) = l.getD i 0 := rfl
    have hg : -9223372036854775808 ≤ l.getD i 0 ∧ l.getD i 0 ≤ 9223372036854775807 := by
      rw [List.getD_eq_getElem?_getD, List.getElem?_eq_getElem (by omega)]; exact hx _ (List.getElem_mem (by omega))
    rw [hybrid_Write.l0, if_pos (by omega), if_pos (by omega), if_pos (by omega), hr]
    have hd := okN_drop (W := W) (l := l) (i := i) (by omega)
    by_cases c : l.getD i 0 < 0
    · rw [if_pos c, if_neg (fun h => by have := (hd.1 h).1.1; omega)]
    · have hw : IntKind.u64.wrap (l.getD i 0) = l.getD i 0 := by rw [u64w]; omega
      rw [if_neg c, hw, width (by omega) (by omega) (by omega), Option.bind_some]
      by_cases e : wd (l.getD i 0).toNat ≤ W
      · obtain ⟨k, rfl⟩ : ∃ j, k = j + 1 := ⟨k - 1, by omega⟩
        rw [if_neg (by omega), w64s' (by omega), prog_checks W hW l hl hx d (i + 1) k (by omega) (by omega), show k + 1 + 1 - (d + 1) = k + 1 - d by omega]
        by_cases g : okN W (l.drop (i + 1))
        · rw [if_pos g, if_pos (hd.2 ⟨⟨by omega, e⟩, g⟩)]
        · rw [if_neg g, if_neg (fun h => g (hd.1 h).2)]
      · rw [if_pos (by omega), if_neg (fun h => e (hd.1 h).1.2)]
theorem okN_range {W : Nat} {l : List Int} (h : okN W l) (hx : ∀ x ∈ l, -9223372036854775808 ≤ x ∧ x ≤ 9223372036854775807) : ∀ x ∈ l, 0 ≤ x ∧ x ≤ 9223372036854775807 := fun x hm => ⟨(h x hm).1, (hx x hm).2⟩
theorem write {k : Nat} {w : Int} {l : List Int} (hk : 2000 + 7 * l.length ≤ k) (hl : l.length ≤ 100000) (hx : ∀ x ∈ l, -9223372036854775808 ≤ x ∧ x ≤ 9223372036854775807) : hybrid_Write.f k w l = some (WriteR w l) := by
  obtain ⟨k, rfl⟩ : ∃ j, k = j + 1 := ⟨k - 1, by omega⟩
  unfold hybrid_Write.f WriteR
  by_cases c : w < 0
  · rw [if_pos c, if_pos (.inl c), hybrid_Write.j0, if_pos rfl]
  rw [if_neg c]
  by_cases d : w > 32
  · rw [decide_eq_true d, if_pos (.inr (by omega)), hybrid_Write.j0, if_pos rfl]
  obtain ⟨W, rfl⟩ := Int.eq_ofNat_of_zero_le (show 0 ≤ w by omega)
  obtain ⟨k, rfl⟩ : ∃ j, k = j + 1 := ⟨k - 1, by omega⟩
  have hp := prog_checks W (by omega) l hl hx l.length 0 k (by omega) (by omega)
  rw [List.drop_zero, show ((0 : Nat) : Int) = 0 from rfl] at hp
  rw [decide_eq_false d, if_neg (by omega), hybrid_Write.j0, if_neg (by decide), hp, show ((W : Int)).toNat = W from rfl]
  clear hp
  by_cases e : okN W l
  · rw [if_pos e, if_pos e]
    obtain ⟨j, hj⟩ : ∃ j, k + 1 - l.length = j + 1 := ⟨k - l.length, by omega⟩
    rw [hj, hybrid_Write.l0, if_neg (by omega)]
    by_cases g : 65536 < l.length
    · rw [if_pos (by omega), if_pos g]
    · rw [if_neg (by omega), if_neg g, prog_told W (by omega) l.length l j [] (Nat.le_refl _) (by omega) (okN_range e hx) (by simp; omega) (by omega), List.nil_append]
      by_cases m : 1048576 < (toldS W l.length l).length
      · rw [if_pos m, if_pos (by omega)]
      · rw [if_neg m, if_neg (by omega)]
  · rw [if_neg e, if_neg e]
end Go.Proofs.Ytpibhiacmceekaa.L11

namespace Go.Proofs.Ytpibhiacmceekaa.X
open Go.RowKit Go.Proofs.YtpibhiacmceekaaW.PrintWords Go.Proofs.YtpibhiacmceekaaW.PrintLast Go.Proofs.YtpibhiacmceekaaW.PrintMore
attribute [local go_sem] max2_int min2_int max_two min_two max_three min_three max_four min_four   -- for this text's walks alone
set_option linter.unusedVariables false
set_option linter.unusedSimpArgs false

/-! ### marquetryref01_ReadVarint: function 72 -/
mutual
def marquetryref01_ReadVarint.j0 : Nat → List Int → Int → Bool → Option (Int × Int × Int)
 | 0, _, _, _ => none
 | k + 1, x0, x1, x18 => if x18 = true then (some (0, 0, 2)) else (marquetryref01_ReadVarint.l0 k x0 x1 0 1 0)
def marquetryref01_ReadVarint.l0 : Nat → List Int → Int → Int → Int → Int → Option (Int × Int × Int)
 | 0, _, _, _, _, _ => none
 | k + 1, x0, x1, x7, x8, x9 => if (wrap64 (x1 + x9)) ≥ (x0.length : Int) then (some (0, 0, 6)) else (if 0 ≤ (wrap64 (x1 + x9)) then (if (wrap64 (x1 + x9)) < (x0.length : Int) then (if x9 = 9 then (marquetryref01_ReadVarint.j2 k x0 x1 x7 x8 x9 (rd x0 (wrap64 (x1 + x9))) (decide ((rd x0 (wrap64 (x1 + x9))) > 1))) else (marquetryref01_ReadVarint.j2 k x0 x1 x7 x8 x9 (rd x0 (wrap64 (x1 + x9))) false)) else (none)) else (none))
def marquetryref01_ReadVarint.j2 : Nat → List Int → Int → Int → Int → Int → Int → Bool → Option (Int × Int × Int)
 | 0, _, _, _, _, _, _, _ => none
 | k + 1, x0, x1, x7, x8, x9, x10, x38 => if x38 = true then (some (0, 0, 110)) else (if x10 < 128 then (if x10 = 0 then (if x9 > 0 then (some (0, 0, 8)) else (some (IntKind.u64.wrap (x7 + (IntKind.u64.wrap ((IntKind.u64.wrap (Int.tmod x10 128)) * x8))), wrap64 ((wrap64 (x1 + x9)) + 1), 0))) else (some (IntKind.u64.wrap (x7 + (IntKind.u64.wrap ((IntKind.u64.wrap (Int.tmod x10 128)) * x8))), wrap64 ((wrap64 (x1 + x9)) + 1), 0))) else (marquetryref01_ReadVarint.l0 k x0 x1 (IntKind.u64.wrap (x7 + (IntKind.u64.wrap ((IntKind.u64.wrap (Int.tmod x10 128)) * x8)))) (IntKind.u64.wrap (x8 * 128)) (wrap64 (x9 + 1))))
end
def marquetryref01_ReadVarint.f (k : Nat) (l0 : List Int) (a1 : Int) : Option (Int × Int × Int) := if a1 < 0 then (marquetryref01_ReadVarint.j0 k l0 a1 true) else (marquetryref01_ReadVarint.j0 k l0 a1 (decide (a1 > (l0.length : Int))))
theorem marquetryref01_ReadVarint.mono_l : ∀ k, (∀ y0 y1 y2, LeO (marquetryref01_ReadVarint.j0 k y0 y1 y2) (marquetryref01_ReadVarint.j0 (k + 1) y0 y1 y2)) ∧ (∀ y0 y1 y2 y3 y4, LeO (marquetryref01_ReadVarint.l0 k y0 y1 y2 y3 y4) (marquetryref01_ReadVarint.l0 (k + 1) y0 y1 y2 y3 y4)) ∧ (∀ y0 y1 y2 y3 y4 y5 y6, LeO (marquetryref01_ReadVarint.j2 k y0 y1 y2 y3 y4 y5 y6) (marquetryref01_ReadVarint.j2 (k + 1) y0 y1 y2 y3 y4 y5 y6))
 | 0 => ⟨fun _ _ _ r h => by simp [marquetryref01_ReadVarint.j0] at h, fun _ _ _ _ _ r h => by simp [marquetryref01_ReadVarint.l0] at h, fun _ _ _ _ _ _ _ r h => by simp [marquetryref01_ReadVarint.j2] at h⟩
 | k + 1 => by
  obtain ⟨ih0, ih1, ih2⟩ := marquetryref01_ReadVarint.mono_l k
  refine ⟨?_, ?_, ?_⟩
  ·intro y0 y1 y2
   unfold marquetryref01_ReadVarint.j0
   repeat' first
   | (with_reducible exact ih0 _ _ _)
   | (with_reducible exact ih1 _ _ _ _ _)
   | (with_reducible exact ih2 _ _ _ _ _ _ _)
   | (with_reducible exact LeO.refl _)
   | (with_reducible exact LeO.none _)
   | (with_reducible refine LeO.ite ?_ ?_)
   | (with_reducible refine LeO.bind ?_ (fun _ => ?_))
   | exact ih0 _ _ _
   | exact ih1 _ _ _ _ _
   | exact ih2 _ _ _ _ _ _ _
   | exact LeO.none _
   | refine LeO.ite ?_ ?_
   | refine LeO.bind ?_ (fun _ => ?_)
  ·intro y0 y1 y2 y3 y4
   unfold marquetryref01_ReadVarint.l0
   repeat' first
   | (with_reducible exact ih0 _ _ _)
   | (with_reducible exact ih1 _ _ _ _ _)
   | (with_reducible exact ih2 _ _ _ _ _ _ _)
   | (with_reducible exact LeO.refl _)
   | (with_reducible exact LeO.none _)
   | (with_reducible refine LeO.ite ?_ ?_)
   | (with_reducible refine LeO.bind ?_ (fun _ => ?_))
   | exact ih0 _ _ _
   | exact ih1 _ _ _ _ _
   | exact ih2 _ _ _ _ _ _ _
   | exact LeO.none _
   | refine LeO.ite ?_ ?_
   | refine LeO.bind ?_ (fun _ => ?_)
  ·intro y0 y1 y2 y3 y4 y5 y6
   unfold marquetryref01_ReadVarint.j2
   repeat' first
   | (with_reducible exact ih0 _ _ _)
   | (with_reducible exact ih1 _ _ _ _ _)
   | (with_reducible exact ih2 _ _ _ _ _ _ _)
   | (with_reducible exact LeO.refl _)
   | (with_reducible exact LeO.none _)
   | (with_reducible refine LeO.ite ?_ ?_)
   | (with_reducible refine LeO.bind ?_ (fun _ => ?_))
   | exact ih0 _ _ _
   | exact ih1 _ _ _ _ _
   | exact ih2 _ _ _ _ _ _ _
   | exact LeO.none _
   | refine LeO.ite ?_ ?_
   | refine LeO.bind ?_ (fun _ => ?_)
theorem marquetryref01_ReadVarint.mono : ∀ a0 a1 k, LeO (marquetryref01_ReadVarint.f k a0 a1) (marquetryref01_ReadVarint.f (k + 1) a0 a1) := by
 intro a0 a1 k
 obtain ⟨ih0, ih1, ih2⟩ := marquetryref01_ReadVarint.mono_l k
 unfold marquetryref01_ReadVarint.f
 repeat' first
   | (with_reducible exact ih0 _ _ _)
   | (with_reducible exact ih1 _ _ _ _ _)
   | (with_reducible exact ih2 _ _ _ _ _ _ _)
   | (with_reducible exact LeO.refl _)
   | (with_reducible exact LeO.none _)
   | (with_reducible refine LeO.ite ?_ ?_)
   | (with_reducible refine LeO.bind ?_ (fun _ => ?_))
   | exact ih0 _ _ _
   | exact ih1 _ _ _ _ _
   | exact ih2 _ _ _ _ _ _ _
   | exact LeO.none _
   | refine LeO.ite ?_ ?_
   | refine LeO.bind ?_ (fun _ => ?_)
set_option maxHeartbeats 8000000 in
set_option maxRecDepth 100000 in
theorem marquetryref01_ReadVarint.calls (k : Nat) (A0 : Option Addr) (c0 : Nat) (l0 : List Int) (a1 : Int) (r1 : Int) (r2 : Int) (r3 : Int) (w : World) (hr0 : Kd.C (Kd.int .u8) w A0 l0.length l0) (hc0 : l0.length ≤ c0) (h : marquetryref01_ReadVarint.f k l0 a1 = some (r1, r2, r3)) :
  Calls Try.prog 72 #[.slice A0 l0.length c0, .int .i64 a1] w fun e w' => e = .returned (.tuple #[.int .u64 r1, .int .i64 r2, .int .i64 r3]) ∧ Drawn0 w w' := by
 have HR0 := Aside0.mk hr0
 have HC0 := Aside0.mk hc0
 clear hr0 hc0
 have H : (if a1 < 0 then (marquetryref01_ReadVarint.j0 k l0 a1 true) else (marquetryref01_ReadVarint.j0 k l0 a1 (decide (a1 > (l0.length : Int))))) = some (r1, r2, r3) := h
 clear h
 have HC3 := Aside0.mk H
 clear H
 go_enter Try.func72, Try.ntmps72
 go_upto_region 1 with (fail)
 go_cut [18] (fun v18 wc => ∃ (kq : Nat) (x18_2 : Bool), v18 = .bool x18_2 ∧ Aside0 (marquetryref01_ReadVarint.j0 kq l0 a1 x18_2 = some (r1, r2, r3)) ∧ Aside0 (kq ≤ k) ∧ Drawn0 w wc)
 case first =>
  have H := HC3.out
  clear HC3
  by_cases c4 : a1 < 0
  ·rw [if_pos c4] at H
   have c4b0 : decide (a1 < 0) = true := decide_eq_true c4
   clear c4
   (first | rw [c4b0] | (simp only [i64_w, i32_w]; rw [c4b0]) | skip)
   have H' := Aside0.mk H
   clear H
   go_wp2
   go_meet
   case rel => exact ⟨_, (true), (by first | rfl | (simp; done) | (simp [*]; done)), H', ⟨by first | omega | exact Nat.le_refl _⟩, by repeat (first | exact Drawn0.refl _ | apply Drawn0.step)⟩
  ·rw [if_neg c4] at H
   have c4b0 : decide (a1 < 0) = false := decide_eq_false c4
   clear c4
   (first | rw [c4b0] | (simp only [i64_w, i32_w]; rw [c4b0]) | skip)
   have H' := Aside0.mk H
   clear H
   go_wp2
   go_meet
   case rel => exact ⟨_, (decide (a1 > (l0.length : Int))), (by first | rfl | (simp; done) | (simp [*]; done)), H', ⟨by first | omega | exact Nat.le_refl _⟩, by repeat (first | exact Drawn0.refl _ | apply Drawn0.step)⟩
 case rest =>
  clear HC3
  try clear p2
  try clear c4
  try clear c4b0
  obtain ⟨kq, x18_2, rfl, HA, HJ2, ⟨mc2, rfl⟩⟩ := hcut
  cases kq with
  | zero => exact absurd HA.out (by simp [marquetryref01_ReadVarint.j0])
  | succ kj2 =>
   have H := HA.out
   clear HA
   simp only [marquetryref01_ReadVarint.j0] at H
   by_cases c5 : x18_2 = true
   ·subst c5
    have H1 : (some (0, 0, 2)) = some (r1, r2, r3) := by rw [if_pos rfl] at H; exact H
    clear H
    have H := H1
    clear H1
    simp only [Option.some.injEq, Prod.mk.injEq] at H
    obtain ⟨rfl, rfl, rfl⟩ := H
    go_wp2
    go_ret3
    exact ⟨by first | rfl | (simp; done) | (simp [*]; done), by repeat (first | exact Drawn0.refl _ | apply Drawn0.step)⟩
   ·replace c5 := Bool.eq_false_iff.mpr c5
    subst c5
    have H1 : (marquetryref01_ReadVarint.l0 kj2 l0 a1 0 1 0) = some (r1, r2, r3) := by rw [if_neg (show ¬ (false = true) by decide)] at H; exact H
    clear H
    have H := H1
    clear H1
    have H' := Aside0.mk H
    clear H
    go_wp2
    go_loopg [7, 8, 9] kj2 (fun kq v7 v8 v9 w' => ∃ (x7_2 : Int) (x8_2 : Int) (x9_2 : Int), v7 = .int .u64 x7_2 ∧ v8 = .int .u64 x8_2 ∧ v9 = .int .i64 x9_2 ∧ Aside0 (marquetryref01_ReadVarint.l0 kq l0 a1 x7_2 x8_2 x9_2 = some (r1, r2, r3)) ∧ Aside0 (kq ≤ kj2) ∧ Drawn0 w w')
    case atStart => exact ⟨(0), (1), (0), (by first | rfl | (simp; done) | (simp [*]; done)), (by first | rfl | (simp; done) | (simp [*]; done)), (by first | rfl | (simp; done) | (simp [*]; done)), H', ⟨Nat.le_refl _⟩, by repeat (first | exact Drawn0.refl _ | apply Drawn0.step)⟩
    case round =>
     clear H'
     try clear c2
     try clear p2
     try clear c4
     try clear c4b0
     try clear c5
     try clear p2
     obtain ⟨x7_2, x8_2, x9_2, rfl, rfl, rfl, HA, HK2, ⟨m2, rfl⟩⟩ := hrel
     cases gk with
     | zero => exact absurd HA.out (by simp [marquetryref01_ReadVarint.l0])
     | succ k2 =>
      have H := HA.out
      clear HA
      simp only [marquetryref01_ReadVarint.l0] at H
      by_cases c6 : (wrap64 (a1 + x9_2)) ≥ (l0.length : Int)
      ·rw [if_pos c6] at H
       have c6b0 : decide ((l0.length : Int) ≤ (wrap64 (a1 + x9_2))) = true := decide_eq_true c6
       clear c6
       simp only [Option.some.injEq, Prod.mk.injEq] at H
       obtain ⟨rfl, rfl, rfl⟩ := H
       go_wp2
       go_ret3
       exact ⟨by first | rfl | (simp; done) | (simp [*]; done), by repeat (first | exact Drawn0.refl _ | apply Drawn0.step)⟩
      ·rw [if_neg c6] at H
       have c6b0 : decide ((l0.length : Int) ≤ (wrap64 (a1 + x9_2))) = false := decide_eq_false c6
       clear c6
       obtain ⟨ji7, hji7⟩ : ∃ j_ : Int, (wrap64 (a1 + x9_2)) = j_ := ⟨_, rfl⟩
       replace H : (if 0 ≤ (ji7) then (if (ji7) < (l0.length : Int) then (if x9_2 = 9 then (marquetryref01_ReadVarint.j2 k2 l0 a1 x7_2 x8_2 x9_2 (rd l0 (ji7)) (decide ((rd l0 (ji7)) > 1))) else (marquetryref01_ReadVarint.j2 k2 l0 a1 x7_2 x8_2 x9_2 (rd l0 (ji7)) false)) else (none)) else (none)) = some (r1, r2, r3) := by first | (rw [hji7] at H; exact H) | (simp only [hji7] at H ⊢; exact H)
       (try rw [hji7] at c6b0)
       have hji7w : (IntKind.i64.wrap (a1 + x9_2)) = ji7 := (i64_w _).trans hji7
       by_cases c8 : 0 ≤ (ji7)
       ·rw [if_pos c8] at H
        have c8b0 : decide (0 ≤ (ji7)) = true := decide_eq_true c8
        clear c8
        by_cases c9 : (ji7) < (l0.length : Int)
        ·rw [if_pos c9] at H
         have c9b0 : decide ((ji7) < (l0.length : Int)) = true := decide_eq_true c9
         clear c9
         have HC10 := Aside0.mk H
         clear H
         have p338 : 0 ≤ ((ji7) : Int) := of_decide_eq_true (by first | (with_reducible assumption) | assumption)
         have q338 : (ji7) < (l0.length : Int) := of_decide_eq_true (by first | (with_reducible assumption) | assumption)
         obtain ⟨ad338, e338, hx338_0⟩ := Kd.at_int HR0.out (ji7) p338 q338
         cases e338
         replace p338 := eq_true p338
         replace q338 := eq_true q338
         go_upto_region 9 with (fail)
         go_cut [38] (fun v38 wc => ∃ (kq : Nat) (x38_9 : Bool), v38 = .bool x38_9 ∧ Aside0 (marquetryref01_ReadVarint.j2 kq l0 a1 x7_2 x8_2 x9_2 (rd l0 (ji7)) x38_9 = some (r1, r2, r3)) ∧ Aside0 (kq ≤ k2) ∧ Drawn0 w wc)
         case first =>
          have H := HC10.out
          clear HC10
          by_cases c11 : x9_2 = 9
          ·rw [if_pos c11] at H
           have c11b0 : (x9_2 == 9) = true := beq_iff_eq.mpr c11
           have c11b1 : (x9_2 != 9) = false := bne_eq_false_iff_eq.mpr c11
           clear c11
           (first | rw [c11b0] | (simp only [i64_w, i32_w]; rw [c11b0]) | skip)
           have H' := Aside0.mk H
           clear H
           go_wp2
           go_meet
           case rel => exact ⟨_, (decide ((rd l0 (ji7)) > 1)), (by first | rfl | (simp; done) | (simp only [← hji7] <;> (first | rfl | simp)) | (simp [*]; done)), H', ⟨by have := HJ2.out; have := HK2.out; first | omega | exact Nat.le_refl _⟩, by repeat (first | exact Drawn0.refl _ | apply Drawn0.step)⟩
          ·rw [if_neg c11] at H
           have c11b0 : (x9_2 == 9) = false := beq_eq_false_iff_ne.mpr c11
           have c11b1 : (x9_2 != 9) = true := bne_iff_ne.mpr c11
           (first | rw [c11b0] | (simp only [i64_w, i32_w]; rw [c11b0]) | skip)
           have H' := Aside0.mk H
           clear H
           go_wp2
           go_meet
           case rel => exact ⟨_, (false), (by first | rfl | (simp; done) | (simp [*]; done)), H', ⟨by have := HJ2.out; have := HK2.out; first | omega | exact Nat.le_refl _⟩, by repeat (first | exact Drawn0.refl _ | apply Drawn0.step)⟩
         case rest =>
          clear HC10
          try clear c1
          try clear c2
          try clear p2
          try clear p3
          try clear q3
          try clear hx3
          try clear c4
          try clear c4b0
          try clear c5
          try clear c6
          try clear c6b0
          try clear p6
          try clear c7
          try clear c8
          try clear c8b0
          try clear c9
          try clear c9b0
          try clear c11
          try clear c11b0
          try clear c11b1
          try clear hx338_0
          try clear p2
          try clear p338
          try clear q338
          obtain ⟨kq, x38_9, rfl, HA, HJ9, ⟨mc9, rfl⟩⟩ := hcut
          cases kq with
          | zero => exact absurd HA.out (by simp [marquetryref01_ReadVarint.j2])
          | succ kj9 =>
           have H := HA.out
           clear HA
           simp only [marquetryref01_ReadVarint.j2] at H
           by_cases c12 : x38_9 = true
           ·subst c12
            have H1 : (some (0, 0, 110)) = some (r1, r2, r3) := by rw [if_pos rfl] at H; exact H
            clear H
            have H := H1
            clear H1
            simp only [Option.some.injEq, Prod.mk.injEq] at H
            obtain ⟨rfl, rfl, rfl⟩ := H
            go_wp2
            go_ret3
            exact ⟨by first | rfl | (simp; done) | (simp only [← hji7] <;> (first | rfl | simp)) | (simp [*]; done), by repeat (first | exact Drawn0.refl _ | apply Drawn0.step)⟩
           ·replace c12 := Bool.eq_false_iff.mpr c12
            subst c12
            have H1 : (if (rd l0 (ji7)) < 128 then (if (rd l0 (ji7)) = 0 then (if x9_2 > 0 then (some (0, 0, 8)) else (some (IntKind.u64.wrap (x7_2 + (IntKind.u64.wrap ((IntKind.u64.wrap (Int.tmod (rd l0 (ji7)) 128)) * x8_2))), wrap64 ((wrap64 (a1 + x9_2)) + 1), 0))) else (some (IntKind.u64.wrap (x7_2 + (IntKind.u64.wrap ((IntKind.u64.wrap (Int.tmod (rd l0 (ji7)) 128)) * x8_2))), wrap64 ((wrap64 (a1 + x9_2)) + 1), 0))) else (marquetryref01_ReadVarint.l0 kj9 l0 a1 (IntKind.u64.wrap (x7_2 + (IntKind.u64.wrap ((IntKind.u64.wrap (Int.tmod (rd l0 (ji7)) 128)) * x8_2)))) (IntKind.u64.wrap (x8_2 * 128)) (wrap64 (x9_2 + 1)))) = some (r1, r2, r3) := by rw [if_neg (show ¬ (false = true) by decide)] at H; exact H
            clear H
            have H := H1
            clear H1
            by_cases c13 : (rd l0 (ji7)) < 128
            ·rw [if_pos c13] at H
             have c13b0 : decide ((rd l0 (ji7)) < 128) = true := decide_eq_true c13
             clear c13
             by_cases c14 : (rd l0 (ji7)) = 0
             ·rw [if_pos c14] at H
              have c14b0 : ((rd l0 (ji7)) == 0) = true := beq_iff_eq.mpr c14
              have c14b1 : ((rd l0 (ji7)) != 0) = false := bne_eq_false_iff_eq.mpr c14
              clear c14
              by_cases c15 : x9_2 > 0
              ·rw [if_pos c15] at H
               have c15b0 : decide (0 < x9_2) = true := decide_eq_true c15
               clear c15
               simp only [Option.some.injEq, Prod.mk.injEq] at H
               obtain ⟨rfl, rfl, rfl⟩ := H
               go_wp2
               go_ret3
               exact ⟨by first | rfl | (simp; done) | (simp only [← hji7] <;> (first | rfl | simp)) | (simp [*]; done), by repeat (first | exact Drawn0.refl _ | apply Drawn0.step)⟩
              ·rw [if_neg c15] at H
               have c15b0 : decide (0 < x9_2) = false := decide_eq_false c15
               clear c15
               simp only [Option.some.injEq, Prod.mk.injEq] at H
               obtain ⟨rfl, rfl, rfl⟩ := H
               go_wp2
               go_ret3
               exact ⟨by first | rfl | (simp; done) | (simp only [← hji7] <;> (first | rfl | simp)) | (simp [*]; done), by repeat (first | exact Drawn0.refl _ | apply Drawn0.step)⟩
             ·rw [if_neg c14] at H
              have c14b0 : ((rd l0 (ji7)) == 0) = false := beq_eq_false_iff_ne.mpr c14
              have c14b1 : ((rd l0 (ji7)) != 0) = true := bne_iff_ne.mpr c14
              simp only [Option.some.injEq, Prod.mk.injEq] at H
              obtain ⟨rfl, rfl, rfl⟩ := H
              go_wp2
              go_ret3
              exact ⟨by first | rfl | (simp; done) | (simp only [← hji7] <;> (first | rfl | simp)) | (simp [*]; done), by repeat (first | exact Drawn0.refl _ | apply Drawn0.step)⟩
            ·rw [if_neg c13] at H
             have c13b0 : decide ((rd l0 (ji7)) < 128) = false := decide_eq_false c13
             clear c13
             have H' := Aside0.mk H
             clear H
             go_wp2
             go_roundg kj9
             case measure => have := HJ2.out; have := HK2.out; have := HJ9.out; omega
             case rel => exact ⟨(IntKind.u64.wrap (x7_2 + (IntKind.u64.wrap ((IntKind.u64.wrap (Int.tmod (rd l0 (ji7)) 128)) * x8_2)))), (IntKind.u64.wrap (x8_2 * 128)), (wrap64 (x9_2 + 1)), (by first | rfl | (simp; done) | (simp only [← hji7] <;> (first | rfl | simp)) | (simp [*]; done)), (by first | rfl | (simp; done) | (simp [*]; done)), (by first | rfl | (simp; done) | (simp [*]; done)), H', ⟨by have := HJ2.out; have := HK2.out; have := HJ9.out; omega⟩, by repeat (first | exact Drawn0.refl _ | apply Drawn0.step)⟩
        ·rw [if_neg c9] at H
         exact absurd H (by simp)
       ·rw [if_neg c8] at H
        exact absurd H (by simp)

end Go.Proofs.Ytpibhiacmceekaa.X
