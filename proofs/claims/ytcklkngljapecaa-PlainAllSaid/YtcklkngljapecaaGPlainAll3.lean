/- PlainAll: texts of this seat in one (wip/merge.py): X41, Bx, Nx, L1, Px, L1p, L1u, L10, Al, AlW, AlL, AlF, AlB, Rt, Ap, X6, Rd. -/
import Derived.Test.YtcklkngljapecaaGPlainAll0
import Derived.Laws.BitsLemmas
import Derived.Laws.Bits64
import Derived.IntWalk
import Derived.RowKit
import Derived.Test.YtcklkngljapecaaGPlainAll2
import Derived.Test.YtcklkngljapecaaGPlainAll1
import Derived.Shelf.RegionOpen
import Derived.Deep.Slices
import Derived.Lib.SmallJoins
import Derived.SizedLaws
section
namespace Go.Proofs.Ytcklkngljapecaa.X
open Go.RowKit Go.Proofs.YtcklkngljapecaaW.PrintWords Go.Proofs.YtcklkngljapecaaW.PrintLast Go.Proofs.YtcklkngljapecaaW.PrintMore
attribute [local go_sem] max2_int min2_int max_two min_two max_three min_three max_four min_four
set_option linter.unusedVariables false
set_option linter.unusedSimpArgs false
mutual
def bits_Little.j0 : Nat → Int → Int → Bool → Option (List Int × Int)
 | 0, _, _, _ => none
 | k + 1, x0, x1, x23 => if x23 = true then (some (([] : List Int), 2)) else (bits_Little.l0 k x0 ([] : List Int) x1 0)
def bits_Little.l0 : Nat → Int → List Int → Int → Int → Option (List Int × Int)
 | 0, _, _, _, _ => none
 | k + 1, x0, x6, x24, x25 => if x25 < x24 then (if x6.length < 140737488355328 then (bits_Little.l0 k (x0 / 256) (x6 ++ [(x0) % 256]) x24 (wrap64 (x25 + 1))) else (none)) else (some (x6, 0))
end
def bits_Little.f (k : Nat) (a0 : Int) (a1 : Int) : Option (List Int × Int) := if a1 < 0 then (bits_Little.j0 k a0 a1 true) else (if a1 > 8 then (bits_Little.j0 k a0 a1 true) else (if a1 < 8 then (if 0 ≤ (wrap64 (8 * a1)) then (bits_Little.j0 k a0 a1 ((shr .u64 a0 (wrap64 (8 * a1))) != 0)) else (none)) else (bits_Little.j0 k a0 a1 false)))
theorem bits_Little.mono_l : ∀ k, (∀ y0 y1 y2, LeO (bits_Little.j0 k y0 y1 y2) (bits_Little.j0 (k + 1) y0 y1 y2)) ∧ (∀ y0 y1 y2 y3, LeO (bits_Little.l0 k y0 y1 y2 y3) (bits_Little.l0 (k + 1) y0 y1 y2 y3))
 | 0 => ⟨fun _ _ _ r h => by simp [bits_Little.j0] at h, fun _ _ _ _ r h => by simp [bits_Little.l0] at h⟩
 | k + 1 => by
  obtain ⟨ih0, ih1⟩ := bits_Little.mono_l k
  refine ⟨?_, ?_⟩
  ·intro y0 y1 y2
   unfold bits_Little.j0
   repeat' first
   | (with_reducible exact ih0 _ _ _)
   | (with_reducible exact ih1 _ _ _ _)
   | (with_reducible exact LeO.refl _)
   | (with_reducible exact LeO.none _)
   | (with_reducible refine LeO.ite ?_ ?_)
   | (with_reducible refine LeO.bind ?_ (fun _ => ?_))
   | exact ih0 _ _ _
   | exact ih1 _ _ _ _
   | exact LeO.none _
   | refine LeO.ite ?_ ?_
   | refine LeO.bind ?_ (fun _ => ?_)
  ·intro y0 y1 y2 y3
   unfold bits_Little.l0
   repeat' first
   | (with_reducible exact ih0 _ _ _)
   | (with_reducible exact ih1 _ _ _ _)
   | (with_reducible exact LeO.refl _)
   | (with_reducible exact LeO.none _)
   | (with_reducible refine LeO.ite ?_ ?_)
   | (with_reducible refine LeO.bind ?_ (fun _ => ?_))
   | exact ih0 _ _ _
   | exact ih1 _ _ _ _
   | exact LeO.none _
   | refine LeO.ite ?_ ?_
   | refine LeO.bind ?_ (fun _ => ?_)
theorem bits_Little.mono : ∀ a0 a1 k, LeO (bits_Little.f k a0 a1) (bits_Little.f (k + 1) a0 a1) := by
 intro a0 a1 k
 obtain ⟨ih0, ih1⟩ := bits_Little.mono_l k
 unfold bits_Little.f
 repeat' first
   | (with_reducible exact ih0 _ _ _)
   | (with_reducible exact ih1 _ _ _ _)
   | (with_reducible exact LeO.refl _)
   | (with_reducible exact LeO.none _)
   | (with_reducible refine LeO.ite ?_ ?_)
   | (with_reducible refine LeO.bind ?_ (fun _ => ?_))
   | exact ih0 _ _ _
   | exact ih1 _ _ _ _
   | exact LeO.none _
   | refine LeO.ite ?_ ?_
   | refine LeO.bind ?_ (fun _ => ?_)
set_option maxHeartbeats 8000000 in
set_option maxRecDepth 100000 in
theorem bits_Little.calls (k : Nat) (a0 : Int) (a1 : Int) (r1 : List Int) (r2 : Int) (w : World) (h : bits_Little.f k a0 a1 = some (r1, r2)) :
  Calls Try.prog 50 #[.int .u64 a0, .int .i64 a1] w fun e w' => ∃ v0_ : Value, e = .returned (.tuple #[v0_, .int .i64 r2]) ∧ Kd.R (Kd.int .u8) 5 w' w.heap.size (fun _ => True) v0_ r1 ∧ Below w.heap.size w w' := by
 have HB := Aside0.mk (Below.refl w.heap.size w)
 have H : (if a1 < 0 then (bits_Little.j0 k a0 a1 true) else (if a1 > 8 then (bits_Little.j0 k a0 a1 true) else (if a1 < 8 then (if 0 ≤ (wrap64 (8 * a1)) then (bits_Little.j0 k a0 a1 ((shr .u64 a0 (wrap64 (8 * a1))) != 0)) else (none)) else (bits_Little.j0 k a0 a1 false)))) = some (r1, r2) := h
 clear h
 have HC3 := Aside0.mk H
 clear H
 go_enter Try.func50, Try.ntmps50
 go_upto_region 1 with (fail)
 go_cut [23] (fun v23 wc => ∃ (kq : Nat) (x23_2 : Bool), v23 = .bool x23_2 ∧ Aside0 (bits_Little.j0 kq a0 a1 x23_2 = some (r1, r2)) ∧ Aside0 (kq ≤ k) ∧ Aside0 (Below w.heap.size w wc))
 case first =>
  have H := HC3.out
  clear HC3
  by_cases c4 : a1 < 0
  ·rw [if_pos c4] at H
   have c4b0 : decide (a1 < 0) = true := decide_eq_true c4
   clear c4
   (first | rw [c4b0] | (simp only [i64_w, i32_w]; rw [c4b0]) | skip)
   have H' := Aside0.mk H
   clear H
   go_wp2
   go_meet
   case rel => exact ⟨_, (true), (by first | rfl | (simp; done) | (simp [*]; done)), H', ⟨by first | omega | exact Nat.le_refl _⟩, ⟨by repeat (first | (with_reducible first | exact HB.out | apply below_alloc | apply pw_below_drewN | apply below_drew1) | exact HB.out)⟩⟩
  ·rw [if_neg c4] at H
   have c4b0 : decide (a1 < 0) = false := decide_eq_false c4
   clear c4
   (first | rw [c4b0] | (simp only [i64_w, i32_w]; rw [c4b0]) | skip)
   by_cases c5 : a1 > 8
   ·rw [if_pos c5] at H
    have c5b0 : decide (8 < a1) = true := decide_eq_true c5
    clear c5
    have H' := Aside0.mk H
    clear H
    go_wp2
    go_meet
    case rel => exact ⟨_, (true), (by first | rfl | (simp; done) | (simp [*]; done)), H', ⟨by first | omega | exact Nat.le_refl _⟩, ⟨by repeat (first | (with_reducible first | exact HB.out | apply below_alloc | apply pw_below_drewN | apply below_drew1) | exact HB.out)⟩⟩
   ·rw [if_neg c5] at H
    have c5b0 : decide (8 < a1) = false := decide_eq_false c5
    clear c5
    by_cases c6 : a1 < 8
    ·rw [if_pos c6] at H
     have c6b0 : decide (a1 < 8) = true := decide_eq_true c6
     clear c6
     obtain ⟨ji7, hji7⟩ : ∃ j_ : Int, (wrap64 (8 * a1)) = j_ := ⟨_, rfl⟩
     replace H : (if 0 ≤ (ji7) then (bits_Little.j0 k a0 a1 ((shr .u64 a0 (ji7)) != 0)) else (none)) = some (r1, r2) := by first | (rw [hji7] at H; exact H) | (simp only [hji7] at H ⊢; exact H)
     have hji7w : (IntKind.i64.wrap (8 * a1)) = ji7 := (i64_w _).trans hji7
     by_cases c8 : 0 ≤ (ji7)
     ·rw [if_pos c8] at H
      have c8b0 := eq_true c8
      have c8b1 : decide (0 ≤ (ji7)) = true := decide_eq_true c8
      clear c8
      obtain ⟨ji9, hji9⟩ : ∃ j_ : Int, (shr .u64 a0 (ji7)) = j_ := ⟨_, rfl⟩
      replace H : (bits_Little.j0 k a0 a1 ((ji9) != 0)) = some (r1, r2) := by first | (rw [hji9] at H; exact H) | (simp only [hji9] at H ⊢; exact H)
      have hji9_ : (a0 / 2 ^ min (ji7).toNat 64) = ji9 := hji9
      have hji9z : (ji7) ≤ 64 → (a0 / 2 ^ (ji7).toNat) = ji9 := shr_small hji9
      have H' := Aside0.mk H
      clear H
      go_wp2
      go_meet
      case rel => exact ⟨_, (((ji9) != 0)), (by first | rfl | (simp; done) | (simp only [← hji9] <;> (first | rfl | simp)) | (simp [*]; done)), H', ⟨by first | omega | exact Nat.le_refl _⟩, ⟨by repeat (first | (with_reducible first | exact HB.out | apply below_alloc | apply pw_below_drewN | apply below_drew1) | exact HB.out)⟩⟩
     ·rw [if_neg c8] at H
      exact absurd H (by simp)
    ·rw [if_neg c6] at H
     have c6b0 : decide (a1 < 8) = false := decide_eq_false c6
     clear c6
     have H' := Aside0.mk H
     clear H
     go_wp2
     go_meet
     case rel => exact ⟨_, (false), (by first | rfl | (simp; done) | (simp [*]; done)), H', ⟨by first | omega | exact Nat.le_refl _⟩, ⟨by repeat (first | (with_reducible first | exact HB.out | apply below_alloc | apply pw_below_drewN | apply below_drew1) | exact HB.out)⟩⟩
 case rest =>
  clear HC3
  try clear p2
  try clear c4
  try clear c4b0
  try clear c5
  try clear c5b0
  try clear c6
  try clear c6b0
  try clear p6
  try clear c8
  try clear c8b0
  try clear c8b1
  obtain ⟨kq, x23_2, rfl, HA, HJ2, HB⟩ := hcut
  cases kq with
  | zero => exact absurd HA.out (by simp [bits_Little.j0])
  | succ kj2 =>
   have H := HA.out
   clear HA
   simp only [bits_Little.j0] at H
   by_cases c10 : x23_2 = true
   ·subst c10
    have H1 : (some (([] : List Int), 2)) = some (r1, r2) := by rw [if_pos rfl] at H; exact H
    clear H
    have H := H1
    clear H1
    simp only [Option.some.injEq, Prod.mk.injEq] at H
    obtain ⟨rfl, rfl⟩ := H
    go_wp2
    go_ret2
    exact ⟨_, by first | rfl | (simp [errW_none, errW_some] <;> rfl) | (simp [*, errW_none, errW_some] <;> rfl), by first | exact Kd.R_nil _ _ _ _ _ | exact Kd.N_nil _ _ _ _ _ | exact Kd.V_nil _ _ _ _ _ | exact Kd.Q_nil _ _ _ _ _ | exact Kd.S_nil _ _ _ _ _, by repeat (first | (with_reducible first | exact HB.out | apply below_alloc | apply pw_below_drewN | apply below_drew1) | exact HB.out)⟩
   ·replace c10 := Bool.eq_false_iff.mpr c10
    subst c10
    have H1 : (bits_Little.l0 kj2 a0 ([] : List Int) a1 0) = some (r1, r2) := by rw [if_neg (show ¬ (false = true) by decide)] at H; exact H
    clear H
    have H := H1
    clear H1
    have H' := Aside0.mk H
    clear H
    go_wp2
    go_loopg [0, 6, 25] kj2 (fun kq v0 v6 v25 w' => ∃ (x0_2 : Int) (x6_2 : List Int) (x25_2 : Int), v0 = .int .u64 x0_2 ∧ v25 = .int .i64 x25_2 ∧ Aside0 (bits_Little.l0 kq x0_2 x6_2 a1 x25_2 = some (r1, r2)) ∧ Aside0 (kq ≤ kj2) ∧ Aside0 (Kd.R (Kd.int .u8) 5 w' w.heap.size (fun _ => True) v6 x6_2) ∧ Aside0 (Below w.heap.size w w'))
    case atStart => exact ⟨(a0), (([] : List Int)), (0), (by first | rfl | (simp; done) | (simp [*]; done)), (by first | rfl | (simp; done) | (simp [*]; done)), H', ⟨Nat.le_refl _⟩, ⟨by first | exact Kd.R_nil _ _ _ _ _ | exact Kd.N_nil _ _ _ _ _ | exact Kd.V_nil _ _ _ _ _ | exact Kd.Q_nil _ _ _ _ _ | exact Kd.S_nil _ _ _ _ _⟩, ⟨by repeat (first | (with_reducible first | exact HB.out | apply below_alloc | apply pw_below_drewN | apply below_drew1) | exact HB.out)⟩⟩
    case round =>
     clear H'
     try clear c1
     try clear p2
     try clear c4
     try clear c4b0
     try clear c5
     try clear c5b0
     try clear c6
     try clear c6b0
     try clear p6
     try clear c8
     try clear c8b0
     try clear c8b1
     try clear c10
     try clear p2
     try clear p6
     obtain ⟨x0_2, x6_2, x25_2, rfl, rfl, HA, HK2, HO_6, HB⟩ := hrel
     cases gk with
     | zero => exact absurd HA.out (by simp [bits_Little.l0])
     | succ k2 =>
      have H := HA.out
      clear HA
      simp only [bits_Little.l0] at H
      by_cases c11 : x25_2 < a1
      ·rw [if_pos c11] at H
       have c11b0 : decide (x25_2 < a1) = true := decide_eq_true c11
       clear c11
       by_cases c12 : x6_2.length < 140737488355328
       ·rw [if_pos c12] at H
        have LMc12 := Aside0.mk c12
        clear c12
        obtain ⟨y229, hy229⟩ : ∃ y_ : List Int, y_ = (x6_2 ++ [(x0_2) % 256]) := ⟨_, rfl⟩
        replace H : (bits_Little.l0 k2 (x0_2 / 256) y229 a1 (wrap64 (x25_2 + 1))) = some (r1, r2) := by first | (rw [hy229]; with_reducible exact H) | (have H2_ := (Option.bind_some _ _).symm.trans H; rw [hy229]; with_reducible exact H2_) | (have H2_ := (Option.bind_some _ _).symm.trans H; with_reducible exact H2_) | with_reducible exact H | (rw [hy229]; exact H) | exact H
        have Ny229 := Aside0.mk hy229
        clear hy229
        have H' := Aside0.mk H
        clear H
        go_wp2_with (first | ((with_reducible refine gate_builtin (b := .append) (xs := #[.tmp 27, .tmp 30]) rfl ?_); at_builtin; refine Kd.R_append (Kd.int .u8) (w0 := w) w.heap.size rfl (.tmp 27) (.tmp 30) 22 5 (.int .u8 0) 1 rfl Try.underlying22 info5 rfl (by decide) (by omega) u6 x6_2 ((x0_2) % 256) [.int .u8 ((x0_2) % 256)] (fun _ => True) (fun _ => False) rfl rfl ?aP (fun _ hk => hk.elim) ?aF ?aO ?aB ?aS ?aL ?_; (case aP => exact rfl); (case aB => exact (by repeat (first | (with_reducible first | exact HB.out | apply below_alloc | apply pw_below_drewN | apply below_drew1) | exact HB.out))); (case aF => exact (fun _ _ => trivial)); (case aO => exact (by (with_reducible repeat (first | apply Kd.R_alloc | apply Kd.R_drewN | apply Kd.R_drew)); exact HO_6.out)); (case aS => exact (below_size (by repeat (first | (with_reducible first | exact HB.out | apply below_alloc | apply pw_below_drewN | apply below_drew1) | exact HB.out)))); (case aL => have := LMc12.out; omega); intro v230 w13 ho hb hg hat; rw [← Ny229.out] at ho; have n0_ := Aside0.mk (hb); have n1_ := Aside0.mk (ho); clear HB; clear HO_6; have HB := n0_; have HO231 := n1_; clear n0_ n1_; clear ho hb hg hat))
        go_roundg k2
        case measure => have := HJ2.out; have := HK2.out; omega
        case rel => exact ⟨(x0_2 / 256), (y229), (wrap64 (x25_2 + 1)), (by first | rfl | (simp; done) | (simp [*]; done)), (by first | rfl | (simp; done) | (simp [*]; done)), H', ⟨by have := HJ2.out; have := HK2.out; omega⟩, ⟨by (with_reducible repeat (first | apply Kd.R_alloc | apply Kd.R_drewN | apply Kd.R_drew)); exact HO231.out⟩, ⟨by repeat (first | (with_reducible first | exact HB.out | apply below_alloc | apply pw_below_drewN | apply below_drew1) | exact HB.out)⟩⟩
       ·rw [if_neg c12] at H
        exact absurd H (by simp)
      ·rw [if_neg c11] at H
       have c11b0 : decide (x25_2 < a1) = false := decide_eq_false c11
       clear c11
       simp only [Option.some.injEq, Prod.mk.injEq] at H
       obtain ⟨rfl, rfl⟩ := H
       go_wp2
       go_ret2
       exact ⟨_, by first | rfl | (simp [errW_none, errW_some] <;> rfl) | (simp [*, errW_none, errW_some] <;> rfl), by (with_reducible repeat (first | apply Kd.R_alloc | apply Kd.R_drewN | apply Kd.R_drew)); exact HO_6.out, by repeat (first | (with_reducible first | exact HB.out | apply below_alloc | apply pw_below_drewN | apply below_drew1) | exact HB.out)⟩
end Go.Proofs.Ytcklkngljapecaa.X
end

section
namespace Go.Proofs.Ytcklkngljapecaa.Bx
open Go.RowKit
theorem u64w (n : Int) : IntKind.u64.wrap n = n % 18446744073709551616 := IntKind.wrap_u64 n
theorem wraps_u64 (n : Int) (h₀ : 0 ≤ n) (h₁ : n < 2 ^ 64) : IntKind.u64.wrap n = n := by rw [u64w]; omega
theorem wf_u8 {a : Int} (h : (Lit.int .u8 a).wf = true) : 0 ≤ a ∧ a ≤ 255 := by
  simp [Lit.wf, IntKind.min, IntKind.max, IntKind.signed, IntKind.bits] at h; omega
theorem w64 {a : Int} (h : -9223372036854775808 ≤ a) (h' : a ≤ 9223372036854775807) : wrap64 a = a := by unfold wrap64; omega
end Go.Proofs.Ytcklkngljapecaa.Bx
end

section
namespace Go.Proofs.Ytcklkngljapecaa.Nx
open Go.RowKit Go.Proofs.Ytcklkngljapecaa.Bx
def wd (n : Nat) : Nat := if n = 0 then 0 else wd (n / 2) + 1
termination_by n
decreasing_by omega
theorem wd_zero : wd 0 = 0 := by rw [wd]; simp
theorem wd_pos {n : Nat} (h : n ≠ 0) : wd n = wd (n / 2) + 1 := by rw [wd]; simp [h]
theorem wd_le (k : Nat) : ∀ n, wd n ≤ k ↔ n < 2 ^ k := by
  induction k with
  | zero =>
    intro n
    by_cases h : n = 0
    · subst h; simp [wd_zero]
    · rw [wd_pos h]; simp; omega
  | succ k ih =>
    intro n
    by_cases h : n = 0
    · subst h; simp [wd_zero, Nat.two_pow_pos]
    · rw [wd_pos h, Nat.add_le_add_iff_right, ih, Nat.pow_succ]; omega
theorem wd_le64 (n : Nat) (h : n < 18446744073709551616) : wd n ≤ 64 := (wd_le 64 n).2 (by omega)
def leS : List Int → Int
  | [] => 0
  | x :: l => x + 256 * leS l
theorem leS_nonneg : ∀ l : List Int, (∀ x ∈ l, 0 ≤ x ∧ x ≤ 255) → 0 ≤ leS l
  | [], _ => by simp [leS]
  | x :: l, h => by
    have := leS_nonneg l (fun y hy => h y (by simp [hy]))
    have := h x (by simp)
    simp only [leS]; omega
theorem leS_lt : ∀ l : List Int, (∀ x ∈ l, 0 ≤ x ∧ x ≤ 255) → leS l < 256 ^ l.length
  | [], _ => by simp [leS]
  | x :: l, h => by
    have := leS_lt l (fun y hy => h y (by simp [hy]))
    have := h x (by simp)
    simp only [leS, List.length_cons, Int.pow_succ]; omega
theorem leS_snoc : ∀ (l : List Int) (x : Int), leS (l ++ [x]) = leS l + 256 ^ l.length * x
  | [], x => by simp [leS]
  | y :: l, x => by
    simp only [List.cons_append, leS, leS_snoc l x, List.length_cons, Int.pow_succ]
    rw [Int.mul_add]
    have : 256 * ((256 : Int) ^ l.length * x) = 256 ^ l.length * 256 * x := by
      rw [← Int.mul_assoc, Int.mul_comm 256]
    omega
theorem or_low_high (i : Nat) (x y : Int) (hx0 : 0 ≤ x) (hx : x < 2 ^ i) (hy0 : 0 ≤ y) (hy : y % 2 ^ i = 0) (hy1 : y < 18446744073709551616) (hx1 : x < 18446744073709551616) :
    bits .or .u64 x y = x + y := by
  have := bits_join .u64 64 (by decide) wraps_u64 i y x hy0 hy (by omega) hx0 hx (by omega)
  obtain ⟨a, rfl⟩ := Int.eq_ofNat_of_zero_le hx0
  obtain ⟨b, rfl⟩ := Int.eq_ofNat_of_zero_le hy0
  have c := (bits_nat .u64 64 (by decide) wraps_u64 a b (by omega) (by omega)).2
  have d := (bits_nat .u64 64 (by decide) wraps_u64 b a (by omega) (by omega)).2
  rw [Nat.or_comm] at c
  have : bits .or .u64 (a : Int) (b : Int) = bits .or .u64 (b : Int) (a : Int) := c.trans d.symm
  omega
def win (l : List Int) (at_ m : Nat) : List Int := (l.drop at_).take m
theorem win_length {l : List Int} {a m : Nat} (h : a + m ≤ l.length) : (win l a m).length = m := by simp [win]; omega
theorem win_mem {l : List Int} {a m : Nat} {x : Int} (h : x ∈ win l a m) : x ∈ l := List.mem_of_mem_drop (List.mem_of_mem_take h)
theorem win_snoc {l : List Int} {a m : Nat} (h : a + m < l.length) : win l a (m + 1) = win l a m ++ [l.getD (a + m) 0] := by
  unfold win
  rw [List.take_succ_eq_append_getElem (by simp; omega)]
  simp [List.getD_eq_getElem?_getD, h]
theorem win_cons {l : List Int} {a m : Nat} (h : a < l.length) : win l a (m + 1) = l.getD a 0 :: win l (a + 1) m := by
  unfold win
  rw [List.drop_eq_getElem_cons h, List.take_succ_cons]
  simp [List.getD_eq_getElem?_getD, h]
theorem win_zero (l : List Int) (a : Nat) : win l a 0 = [] := by simp [win]
end Go.Proofs.Ytcklkngljapecaa.Nx
end

section
namespace Go.Proofs.Ytcklkngljapecaa.L1
set_option linter.unusedVariables false
set_option linter.unusedSimpArgs false
open Go.RowKit Go.Proofs.Ytcklkngljapecaa.X Go.Proofs.YtcklkngljapecaaW.PrintWords Go.Proofs.YtcklkngljapecaaW.PrintLast Go.Proofs.YtcklkngljapecaaW.PrintMore Go.Proofs.Ytcklkngljapecaa.Bx Go.Proofs.Ytcklkngljapecaa.Nx
theorem wd_step {x : Int} (h : x > 0) : wd x.toNat = wd (x / 2).toNat + 1 := by
  rw [wd_pos (by omega)]; congr 2; omega
theorem width_l : ∀ (k : Nat) (x y : Int), 0 ≤ x → x ≤ 18446744073709551615 → 0 ≤ y → y + wd x.toNat ≤ 4611686018427387904 → wd x.toNat < k → bits_Width.l0 k x y = some (y + wd x.toNat)
  | 0, _, _, _, _, _, _, h => absurd h (by omega)
  | k + 1, x, y, h0, h1, h2, h3, h => by
    simp only [bits_Width.l0]
    by_cases c : x > 0
    · have e := wd_step c
      rw [if_pos c, w64 (by omega) (by omega), width_l k (x / 2) (y + 1) (by omega) (by omega) (by omega) (by omega) (by omega), e]
      congr 1; omega
    · have e : x = 0 := by omega
      subst e
      rw [if_neg (by omega)]; simp [wd_zero]
theorem width {k : Nat} {x : Int} (hk : 65 ≤ k) (h0 : 0 ≤ x) (h1 : x ≤ 18446744073709551615) : bits_Width.f k x = some (wd x.toNat : Int) := by
  have := wd_le64 x.toNat (by omega)
  unfold bits_Width.f
  rw [width_l k x 0 h0 h1 (by omega) (by omega) (by omega)]; congr 1; omega
def ReadLittleR (b : List Int) (a m : Int) : Int × Int := if m < 0 ∨ m > 8 ∨ a < 0 ∨ a > b.length then (0, 2) else if m > b.length - a then (0, 6) else (leS (win b a.toNat m.toNat), 0)
theorem getD_range {b : List Int} (hb : ∀ x ∈ b, 0 ≤ x ∧ x ≤ 255) (i : Nat) : 0 ≤ b.getD i 0 ∧ b.getD i 0 ≤ 255 := by
  rw [List.getD_eq_getElem?_getD]
  by_cases h : i < b.length
  · rw [List.getElem?_eq_getElem h]; exact hb _ (List.getElem_mem h)
  · rw [List.getElem?_eq_none (by omega)]; simp
theorem leS_win_lt {b : List Int} (hb : ∀ x ∈ b, 0 ≤ x ∧ x ≤ 255) {a m : Nat} (h : a + m ≤ b.length) : 0 ≤ leS (win b a m) ∧ leS (win b a m) < 256 ^ m := by
  have h1 := leS_nonneg (win b a m) (fun x hx => hb x (win_mem hx))
  have h2 := leS_lt (win b a m) (fun x hx => hb x (win_mem hx))
  rw [win_length h] at h2
  exact ⟨h1, h2⟩
theorem pow256 (i : Nat) : (256 : Int) ^ i = 2 ^ (8 * i) := by rw [Int.pow_mul]; rfl
theorem pow256_le {i j : Nat} (h : i ≤ j) : (256 : Int) ^ i ≤ 256 ^ j := by
  have h2 : ((256 ^ i : Nat) : Int) ≤ ((256 ^ j : Nat) : Int) := Int.ofNat_le.2 (Nat.pow_le_pow_right (by decide) h)
  rw [Int.natCast_pow, Int.natCast_pow] at h2
  exact h2
theorem read_step {b : List Int} (hb : ∀ x ∈ b, 0 ≤ x ∧ x ≤ 255) (a i : Nat) (h : a + i < b.length) (hi : i < 8) :
    bits .or .u64 (leS (win b a i)) (shl .u64 (IntKind.u64.wrap (b.getD (a + i) 0)) (8 * i : Nat)) = leS (win b a (i + 1)) := by
  obtain ⟨h1, h2⟩ := leS_win_lt hb (show a + i ≤ b.length by omega)
  obtain ⟨r1, r2⟩ := getD_range hb (a + i)
  have hp : (256 : Int) ^ (i + 1) ≤ 256 ^ 8 := pow256_le (by omega)
  have h8 : (256 : Int) ^ 8 = 18446744073709551616 := by decide
  have hs : b.getD (a + i) 0 * 256 ^ i < 256 ^ (i + 1) := by
    rw [Int.pow_succ, Int.mul_comm]
    exact Int.mul_lt_mul_of_pos_left (by omega) (Int.pow_pos (by decide))
  have hs0 : 0 ≤ b.getD (a + i) 0 * 256 ^ i := Int.mul_nonneg r1 (Int.le_of_lt (Int.pow_pos (by decide)))
  have e : shl .u64 (IntKind.u64.wrap (b.getD (a + i) 0)) (8 * i : Nat) = b.getD (a + i) 0 * 256 ^ i := by
    unfold shl
    rw [u64w, u64w, Int.emod_eq_of_lt r1 (by omega), Nat.min_eq_left (by simp [IntKind.bits]; omega), show ((8 * i : Nat) : Int).toNat = 8 * i by omega, ← pow256]
    exact Int.emod_eq_of_lt hs0 (by omega)
  rw [e, win_snoc h, leS_snoc, win_length (by omega), or_low_high (8 * i) _ _ h1 (by rw [← pow256]; exact h2) hs0 (by rw [← pow256]; exact Int.mul_emod_left _ _) (by omega) (by have := pow256_le (show i ≤ 8 by omega); omega), Int.mul_comm]
theorem read_l : ∀ (k : Nat) (b : List Int) (a m i : Int), (∀ x ∈ b, 0 ≤ x ∧ x ≤ 255) → b.length ≤ 9223372036854775000 → 0 ≤ a → 0 ≤ i → i ≤ m → m ≤ 8 → a + m ≤ b.length → (m - i).toNat < k →
    bits_ReadLittle.l0 k b a (leS (win b a.toNat i.toNat)) m i = some (leS (win b a.toNat m.toNat), 0)
  | 0, _, _, _, _, _, _, _, _, _, _, _, h => absurd h (by omega)
  | k + 1, b, a, m, i, hb, hl, h0, h1, h2, h3, h4, h => by
    simp only [bits_ReadLittle.l0]
    by_cases c : i < m
    · rw [if_pos c, w64 (by omega) (by omega), if_pos (by omega), if_pos (by omega), w64 (by omega) (by omega), if_pos (by omega), w64 (by omega) (by omega)]
      have e := read_step hb a.toNat i.toNat (by omega) (by omega)
      rw [show ((8 * i.toNat : Nat) : Int) = 8 * i by omega] at e
      have e2 : rd b (a + i) = b.getD (a.toNat + i.toNat) 0 := by unfold rd; congr 1; omega
      rw [e2, e, show i.toNat + 1 = (i + 1).toNat by omega]
      exact read_l k b a m (i + 1) hb hl h0 (by omega) (by omega) h3 h4 (by omega)
    · rw [if_neg c, show i = m by omega]
theorem readLittle {k : Nat} {b : List Int} {a m : Int} (hk : 12 ≤ k) (hb : ∀ x ∈ b, 0 ≤ x ∧ x ≤ 255) (hl : b.length ≤ 9223372036854775000) (ha : a ≤ 9223372036854775807) : bits_ReadLittle.f k b a m = some (ReadLittleR b a m) := by
  obtain ⟨k, rfl⟩ : ∃ j, k = j + 1 := ⟨k - 1, by omega⟩
  unfold bits_ReadLittle.f ReadLittleR
  simp only [bits_ReadLittle.j0]
  by_cases c0 : m < 0
  · rw [if_pos c0, if_pos trivial, if_pos (by omega)]
  rw [if_neg c0]
  by_cases c1 : m > 8
  · rw [if_pos c1, if_pos trivial, if_pos (by omega)]
  rw [if_neg c1]
  by_cases c2 : a < 0
  · rw [if_pos c2, if_pos trivial, if_pos (by omega)]
  rw [if_neg c2]
  by_cases c3 : a > (b.length : Int)
  · rw [if_pos (by simpa using c3), if_pos (by omega)]
  rw [if_neg (by simpa using c3), w64 (by omega) (by omega)]
  by_cases c4 : m > (b.length : Int) - a
  · rw [if_pos c4, if_neg (by omega), if_pos c4]
  rw [if_neg c4, if_neg (by omega), if_neg c4]
  have := read_l k b a m 0 hb hl (by omega) (by omega) (by omega) (by omega) (by omega) (by omega)
  rwa [show (0 : Int).toNat = 0 from rfl, win_zero] at this
theorem ref_read_l : ∀ (k : Nat) (b : List Int) (a m i : Int), (∀ x ∈ b, 0 ≤ x ∧ x ≤ 255) → b.length ≤ 9223372036854775000 → 0 ≤ a → -1 ≤ i → i < m → m ≤ 8 → a + m ≤ b.length → (i + 1).toNat < k →
    marquetryref01_ReadLittle.l0 k b a (leS (win b (a + i + 1).toNat (m - i - 1).toNat)) i = some (leS (win b a.toNat m.toNat), 0)
  | 0, _, _, _, _, _, _, _, _, _, _, _, h => absurd h (by omega)
  | k + 1, b, a, m, i, hb, hl, h0, h1, h2, h3, h4, h => by
    simp only [marquetryref01_ReadLittle.l0]
    by_cases c : i ≥ 0
    · rw [if_pos c, w64 (by omega) (by omega), if_pos (by omega), if_pos (by omega), w64 (by omega) (by omega)]
      obtain ⟨r1, r2⟩ := getD_range hb (a + i).toNat
      obtain ⟨q1, q2⟩ := leS_win_lt hb (show (a + i + 1).toNat + (m - i - 1).toNat ≤ b.length by omega)
      have e := win_cons (l := b) (a := (a + i).toNat) (m := (m - i - 1).toNat) (by omega)
      have e2 : rd b (a + i) = b.getD (a + i).toNat 0 := rfl
      have hp := pow256_le (show (m - i - 1).toNat ≤ 7 by omega)
      have h7 : (256 : Int) ^ 7 = 72057594037927936 := by decide
      have e3 : IntKind.u64.wrap ((IntKind.u64.wrap (leS (win b (a + i + 1).toNat (m - i - 1).toNat) * 256)) + (IntKind.u64.wrap (rd b (a + i)))) = leS (win b (a + (i - 1) + 1).toNat (m - (i - 1) - 1).toNat) := by
        rw [show (a + (i - 1) + 1).toNat = (a + i).toNat by omega, show (m - (i - 1) - 1).toNat = (m - i - 1).toNat + 1 by omega, e, leS, u64w, u64w, u64w, e2, show (a + i).toNat + 1 = (a + i + 1).toNat by omega]
        omega
      rw [e3]
      exact ref_read_l k b a m (i - 1) hb hl h0 (by omega) (by omega) h3 h4 (by omega)
    · rw [if_neg c, show i = -1 by omega]
      rw [show (a + -1 + 1).toNat = a.toNat by omega, show (m - -1 - 1).toNat = m.toNat by omega]
theorem ref_readLittle {k : Nat} {b : List Int} {a m : Int} (hk : 12 ≤ k) (hb : ∀ x ∈ b, 0 ≤ x ∧ x ≤ 255) (hl : b.length ≤ 9223372036854775000) (ha : a ≤ 9223372036854775807) : marquetryref01_ReadLittle.f k b a m = some (ReadLittleR b a m) := by
  obtain ⟨k, rfl⟩ : ∃ j, k = j + 1 := ⟨k - 1, by omega⟩
  unfold marquetryref01_ReadLittle.f ReadLittleR
  simp only [marquetryref01_ReadLittle.j0]
  by_cases c0 : m < 0
  · rw [if_pos c0, if_pos trivial, if_pos (by omega)]
  rw [if_neg c0]
  by_cases c1 : m > 8
  · rw [if_pos c1, if_pos trivial, if_pos (by omega)]
  rw [if_neg c1]
  by_cases c2 : a < 0
  · rw [if_pos c2, if_pos trivial, if_pos (by omega)]
  rw [if_neg c2]
  by_cases c3 : a > (b.length : Int)
  · rw [if_pos (by simpa using c3), if_pos (by omega)]
  rw [if_neg (by simpa using c3), w64 (by omega) (by omega)]
  by_cases c4 : m > (b.length : Int) - a
  · rw [if_pos c4, if_neg (by omega), if_pos c4]
  rw [if_neg c4, if_neg (by omega), if_neg c4, w64 (by omega) (by omega)]
  have := ref_read_l k b a m (m - 1) hb hl (by omega) (by omega) (by omega) (by omega) (by omega) (by omega)
  rwa [show (m - (m - 1) - 1).toNat = 0 by omega, win_zero] at this
end Go.Proofs.Ytcklkngljapecaa.L1
end

section
namespace Go.Proofs.Ytcklkngljapecaa.Px
set_option linter.unusedVariables false
set_option linter.unusedSimpArgs false
open Go.RowKit Go.Proofs.Ytcklkngljapecaa.Bx Go.Proofs.Ytcklkngljapecaa.Nx
def byteAt (B : List Int) (j : Nat) : Int :=
  B.getD (8 * j) 0 + 2 * B.getD (8 * j + 1) 0 + 4 * B.getD (8 * j + 2) 0 + 8 * B.getD (8 * j + 3) 0 + 16 * B.getD (8 * j + 4) 0 + 32 * B.getD (8 * j + 5) 0 + 64 * B.getD (8 * j + 6) 0 + 128 * B.getD (8 * j + 7) 0
theorem getD_snoc (B : List Int) (b : Int) (m : Nat) : (B ++ [b]).getD m 0 = if m = B.length then b else B.getD m 0 := by
  simp only [List.getD_eq_getElem?_getD]
  by_cases h : m = B.length
  · subst h; simp
  · rw [if_neg h]
    rcases Nat.lt_or_ge m B.length with h1 | h1
    · rw [List.getElem?_append_left h1]
    · rw [List.getElem?_append_right h1, List.getElem?_eq_none (by simp; omega), List.getElem?_eq_none h1]
theorem getD_out (B : List Int) {m : Nat} (h : B.length ≤ m) : B.getD m 0 = 0 := by
  rw [List.getD_eq_getElem?_getD, List.getElem?_eq_none h]; rfl
theorem byteAt_snoc (B : List Int) (b : Int) (j : Nat) : byteAt (B ++ [b]) j = byteAt B j + if j = B.length / 8 then b * 2 ^ (B.length % 8) else 0 := by
  unfold byteAt
  simp only [getD_snoc]
  by_cases h : j = B.length / 8
  · rw [if_pos h]
    have q : ∀ t, (8 * j + t = B.length) = (t = B.length % 8) := fun t => propext (by omega)
    have q0 : (8 * j = B.length) = (0 = B.length % 8) := propext (by omega)
    have o := fun m => getD_out B (m := m)
    have o0 := o (8 * j); have o1 := o (8 * j + 1); have o2 := o (8 * j + 2); have o3 := o (8 * j + 3); have o4 := o (8 * j + 4); have o5 := o (8 * j + 5); have o6 := o (8 * j + 6); have o7 := o (8 * j + 7)
    have hr : B.length % 8 = 0 ∨ B.length % 8 = 1 ∨ B.length % 8 = 2 ∨ B.length % 8 = 3 ∨ B.length % 8 = 4 ∨ B.length % 8 = 5 ∨ B.length % 8 = 6 ∨ B.length % 8 = 7 := by omega
    simp only [q, q0]
    rcases hr with e | e | e | e | e | e | e | e <;> rw [e] <;> simp (config := { decide := true }) only [if_true, if_false, Int.reducePow, Int.pow_zero] <;> omega
  · rw [if_neg h]
    have : ∀ t, t < 8 → 8 * j + t ≠ B.length := by omega
    rw [if_neg (by simpa using this 0 (by omega)), if_neg (this 1 (by omega)), if_neg (this 2 (by omega)), if_neg (this 3 (by omega)), if_neg (this 4 (by omega)), if_neg (this 5 (by omega)), if_neg (this 6 (by omega)), if_neg (this 7 (by omega))]
    omega
theorem map_set (B : List Int) (b : Int) (n : Nat) (h : B.length / 8 < n) :
    ((List.range n).map (byteAt B)).set (B.length / 8) (byteAt B (B.length / 8) + b * 2 ^ (B.length % 8)) = (List.range n).map (byteAt (B ++ [b])) := by
  apply List.ext_getElem?
  intro j
  rw [List.getElem?_set]
  by_cases e : B.length / 8 = j
  · subst e
    simp [h, byteAt_snoc]
  · rw [if_neg e]
    simp only [List.getElem?_map]
    rcases Nat.lt_or_ge j n with hj | hj
    · rw [List.getElem?_range hj]
      simp only [Option.map_some, byteAt_snoc]; rw [if_neg (fun h : j = B.length / 8 => e h.symm)]; simp
    · rw [List.getElem?_eq_none (by simpa using hj)]; rfl
end Go.Proofs.Ytcklkngljapecaa.Px
end

section
namespace Go.Proofs.Ytcklkngljapecaa.L1
set_option linter.unusedVariables false
set_option linter.unusedSimpArgs false
open Go.RowKit Go.Proofs.Ytcklkngljapecaa.X Go.Proofs.YtcklkngljapecaaW.PrintWords Go.Proofs.YtcklkngljapecaaW.PrintLast Go.Proofs.YtcklkngljapecaaW.PrintMore Go.Proofs.Ytcklkngljapecaa.Bx Go.Proofs.Ytcklkngljapecaa.Nx Go.Proofs.Ytcklkngljapecaa.Px
def SizeR (w n : Int) : Int × Int := if w < 0 ∨ w > 64 ∨ n < 0 then (0, 2) else if n > 1048576 ∨ (n * w + 7) / 8 > 1048576 then (0, 3) else ((n * w + 7) / 8, 0)
theorem size_j (k : Nat) (w n : Int) (hw : 0 ≤ w) (hw1 : w ≤ 64) (hn : 0 ≤ n) : bits_Size.j0 (k + 1) w n false = some (SizeR w n) := by
  simp only [bits_Size.j0, Bool.false_eq_true, if_false]
  unfold SizeR
  rw [if_neg (by omega : ¬ (w < 0 ∨ w > 64 ∨ n < 0))]
  by_cases c : n > 1048576
  · rw [if_pos c, if_pos (.inl c)]
  · have h1 : 0 ≤ n * w := Int.mul_nonneg hn hw
    have h2 : n * w ≤ 1048576 * 64 := Int.mul_le_mul (by omega) hw1 hw (by omega)
    have a1 : wrap64 (n * w) = n * w := w64 (by omega) (by omega)
    have a2 : wrap64 (n * w + 7) = n * w + 7 := w64 (by omega) (by omega)
    have a3 : wrap64 (Int.tdiv (n * w + 7) 8) = (n * w + 7) / 8 := by rw [Int.tdiv_eq_ediv_of_nonneg (by omega)]; exact w64 (by omega) (by omega)
    rw [if_neg c, a1, a2, a3]
    by_cases d : (n * w + 7) / 8 > 1048576
    · rw [if_pos d, if_pos (.inr d)]
    · rw [if_neg d, if_neg (by omega)]
theorem size {k : Nat} {w n : Int} (hk : 1 ≤ k) : bits_Size.f k w n = some (SizeR w n) := by
  obtain ⟨k, rfl⟩ : ∃ j, k = j + 1 := ⟨k - 1, by omega⟩
  unfold bits_Size.f
  by_cases c0 : w < 0
  · rw [if_pos c0]; simp [bits_Size.j0, SizeR, c0]
  rw [if_neg c0]
  by_cases c1 : w > 64
  · rw [if_pos c1]; simp [bits_Size.j0, SizeR]; omega
  rw [if_neg c1]
  by_cases c2 : n < 0
  · rw [decide_eq_true c2]; simp [bits_Size.j0, SizeR]; omega
  · rw [decide_eq_false c2]; exact size_j k w n (by omega) (by omega) (by omega)
theorem SizeR_ok {w n : Int} (h : (SizeR w n).2 = 0) : 0 ≤ w ∧ w ≤ 64 ∧ 0 ≤ n ∧ n ≤ 1048576 ∧ (SizeR w n).1 = (n * w + 7) / 8 ∧ (n * w + 7) / 8 ≤ 1048576 := by
  unfold SizeR at h ⊢
  split at h
  · simp at h
  · rename_i h1
    rw [if_neg h1]
    split at h
    · simp at h
    · rename_i h2
      rw [if_neg h2]
      exact ⟨by omega, by omega, by omega, by omega, rfl, by omega⟩
end Go.Proofs.Ytcklkngljapecaa.L1
end

section
namespace Go.Proofs.Ytcklkngljapecaa.L1
set_option linter.unusedVariables false
set_option linter.unusedSimpArgs false
open Go.RowKit Go.Proofs.Ytcklkngljapecaa.X Go.Proofs.YtcklkngljapecaaW.PrintWords Go.Proofs.YtcklkngljapecaaW.PrintLast Go.Proofs.YtcklkngljapecaaW.PrintMore Go.Proofs.Ytcklkngljapecaa.Bx Go.Proofs.Ytcklkngljapecaa.Nx Go.Proofs.Ytcklkngljapecaa.Px
def bt (l : List Int) (i : Nat) : Int := l.getD (i / 8) 0 / 2 ^ (i % 8) % 2
theorem bt_range (l : List Int) (i : Nat) : bt l i = 0 ∨ bt l i = 1 := by unfold bt; omega
def valF (g : Nat → Int) : Nat → Nat → Int
  | _, 0 => 0
  | P, d + 1 => g P + 2 * valF g (P + 1) d
theorem valF_snoc (g : Nat → Int) : ∀ (d P : Nat), valF g P (d + 1) = valF g P d + g (P + d) * 2 ^ d
  | 0, P => by simp [valF]
  | d + 1, P => by
    rw [valF, valF_snoc g d (P + 1), valF, Int.pow_succ, show P + 1 + d = P + (d + 1) by omega, Int.mul_add, Int.add_assoc, ← Int.mul_assoc, Int.mul_comm (2 ^ d) 2, ← Int.mul_assoc, Int.mul_comm 2 (g (P + (d + 1)))]
theorem valF_range {g : Nat → Int} (hg : ∀ i, g i = 0 ∨ g i = 1) : ∀ (d P : Nat), 0 ≤ valF g P d ∧ valF g P d < 2 ^ d
  | 0, P => by simp [valF]
  | d + 1, P => by
    have := valF_range hg d (P + 1)
    have h2 := hg P
    rw [valF, Int.pow_succ]
    omega
theorem getD_u8 {l : List Int} (hl : ∀ x ∈ l, 0 ≤ x ∧ x ≤ 255) (j : Nat) : 0 ≤ l.getD j 0 ∧ l.getD j 0 ≤ 255 := by
  rw [List.getD_eq_getElem?_getD]
  by_cases h : j < l.length
  · rw [List.getElem?_eq_getElem h]; exact hl _ (List.getElem_mem h)
  · rw [List.getElem?_eq_none (by omega)]; simp
theorem shr_range {x : Int} {t : Nat} (h : 0 ≤ x ∧ x ≤ 255) : 0 ≤ x / 2 ^ t ∧ x / 2 ^ t ≤ 255 := by
  have hp : (0 : Int) < 2 ^ t := Int.pow_pos (by decide)
  have := Int.ediv_le_self (2 ^ t) h.1
  exact ⟨Int.ediv_nonneg h.1 (Int.le_of_lt hp), by omega⟩
theorem and_one_u8 (x : Int) (h0 : 0 ≤ x) (h1 : x ≤ 255) : bits .and .u8 x 1 = x % 2 := by
  obtain ⟨a, rfl⟩ := Int.eq_ofNat_of_zero_le h0
  have e := (bits_nat .u8 8 (by decide) wraps_u8 a 1 (by omega) (by decide)).1
  have e2 : ((1 : Nat) : Int) = 1 := rfl
  rw [e2] at e
  rw [e, Nat.and_one_is_mod]; omega
theorem bitv_eq {x : Int} {t : Nat} (h : 0 ≤ x ∧ x ≤ 255) : bitv x t = x / 2 ^ t % 2 := by
  have := shr_range (t := t) h
  unfold bitv
  rw [and_one_u8 _ this.1 this.2]
  exact w64 (by omega) (by omega)
theorem allB_eq {l : List Int} (hl : ∀ x ∈ l, 0 ≤ x ∧ x ≤ 255) (m : Nat) : allB l m = (List.range m).map (bt l) := by
  unfold allB
  refine List.map_congr_left fun j _ => ?_
  rw [bitv_eq (getD_u8 hl _)]; rfl
theorem or_bit {d : Nat} {x b : Int} (hx0 : 0 ≤ x) (hx : x < 2 ^ d) (hd : d < 64) (hb : b = 0 ∨ b = 1) : bits .or .u64 x (IntKind.u64.wrap (IntKind.u64.wrap b * 2 ^ d)) = x + b * 2 ^ d := by
  have hp : (0 : Int) < 2 ^ d := Int.pow_pos (by decide)
  have hp2 : (2 : Int) ^ d ≤ 2 ^ 63 := by
    have := Nat.pow_le_pow_right (n := 2) (by decide) (show d ≤ 63 by omega)
    have e : ∀ n : Nat, ((2 ^ n : Nat) : Int) = (2 : Int) ^ n := fun n => by simp
    rw [← e, ← e]; exact Int.ofNat_le.2 this
  have e63 : (2 : Int) ^ 63 = 9223372036854775808 := by decide
  have hw : IntKind.u64.wrap b = b := by rw [u64w]; omega
  have hv : IntKind.u64.wrap (b * 2 ^ d) = b * 2 ^ d := by rw [u64w]; rcases hb with rfl | rfl <;> omega
  rw [hw, hv]
  exact or_low_high d x (b * 2 ^ d) hx0 hx (by rcases hb with rfl | rfl <;> omega) (Int.mul_emod_left _ _) (by rcases hb with rfl | rfl <;> omega) (by omega)
def outF (g : Nat → Int) (W count p : Nat) : List Int := (List.range count).map fun i => valF g (i * W) (min W (p - i * W))
theorem outF_length (g : Nat → Int) (W count p : Nat) : (outF g W count p).length = count := by simp [outF]
theorem outF_get (g : Nat → Int) (W count p i : Nat) (h : i < count) : rd (outF g W count p) (i : Int) = valF g (i * W) (min W (p - i * W)) := by
  unfold rd outF
  rw [List.getD_eq_getElem?_getD, List.getElem?_map, show ((i : Int)).toNat = i from rfl, List.getElem?_range h]; rfl
theorem outF_step {g : Nat → Int} (hg : ∀ i, g i = 0 ∨ g i = 1) {W count k t : Nat} (hk : k < count) (ht : t < W) (hW : W ≤ 64) :
    (outF g W count (k * W + t)).set k (bits .or .u64 (rd (outF g W count (k * W + t)) (k : Int)) (IntKind.u64.wrap (IntKind.u64.wrap (g (k * W + t)) * 2 ^ t))) = outF g W count (k * W + t + 1) := by
  rw [outF_get _ _ _ _ _ hk, show min W (k * W + t - k * W) = t by omega, or_bit (valF_range hg _ _).1 (valF_range hg _ _).2 (by omega) (hg _), ← valF_snoc]
  apply List.ext_getElem
  · simp [outF]
  · intro i h1 h2
    rw [List.getElem_set]
    by_cases e : k = i
    · subst e
      rw [if_pos rfl]
      simp only [outF, List.getElem_map, List.getElem_range]
      rw [show min W (k * W + t + 1 - k * W) = t + 1 by omega]
    · rw [if_neg e]
      simp only [outF, List.getElem_map, List.getElem_range]
      congr 1
      rcases Nat.lt_or_ge i k with hi | hi
      · have : (i + 1) * W ≤ k * W := Nat.mul_le_mul_right _ (by omega)
        rw [Nat.add_mul, Nat.one_mul] at this
        omega
      · have : (k + 1) * W ≤ i * W := Nat.mul_le_mul_right _ (by omega)
        rw [Nat.add_mul, Nat.one_mul] at this
        omega
theorem urun_in (g : Nat → Int) (hg : ∀ i, g i = 0 ∨ g i = 1) (W count : Nat) (hW : W ≤ 64) : ∀ (p : Nat), p ≤ count * W → ∃ k t, urun (W : Int) count ((List.range p).map g) = some (outF g W count p, k, t) ∧ p = k * W + t ∧ (0 < W → t < W) ∧ k ≤ count
  | 0, h => by
    refine ⟨0, 0, ?_, by omega, fun h => h, Nat.zero_le _⟩
    have : outF g W count 0 = List.replicate count 0 := by
      apply List.ext_getElem
      · simp [outF]
      · intro i h1 h2
        simp [outF, valF]
    rw [this]; rfl
  | p + 1, h => by
    obtain ⟨k, t, h1, h2, h3, h4⟩ := urun_in g hg W count hW p (by omega)
    have hW0 : 0 < W := by
      rcases Nat.eq_zero_or_pos W with e | e
      · subst e; omega
      · exact e
    have ht := h3 hW0
    have hk : k < count := by
      rcases Nat.lt_or_ge k count with e | e
      · exact e
      · have : count * W ≤ k * W := Nat.mul_le_mul_right _ e
        omega
    rw [List.range_succ, List.map_append, List.map_cons, List.map_nil, urun_snoc, h1, Option.bind_some]
    unfold ust
    rw [if_pos ⟨by omega, hk⟩]
    simp only
    rw [h2, outF_step hg hk ht hW]
    by_cases e : t + 1 = W
    · rw [if_pos (by omega)]
      exact ⟨k + 1, 0, rfl, by rw [Nat.add_mul]; omega, fun _ => hW0, hk⟩
    · rw [if_neg (by omega)]
      exact ⟨k, t + 1, rfl, by omega, fun _ => by omega, h4⟩
theorem urun_out (g : Nat → Int) (hg : ∀ i, g i = 0 ∨ g i = 1) (W count : Nat) (hW : W ≤ 64) (q : Nat) :
    (match urun (W : Int) count ((List.range (count * W + q)).map g) with | some r => (r.1, (0 : Int)) | none => ([], 8)) = if ∀ j, j < q → g (count * W + j) = 0 then (outF g W count (count * W), 0) else ([], 8) := by
  obtain ⟨k, t, h1, h2, h3, h4⟩ := urun_in g hg W count hW (count * W) (Nat.le_refl _)
  have hno : ¬ (0 < (W : Int) ∧ k < count) := by
    rintro ⟨a, b⟩
    have ht := h3 (by omega)
    have : (k + 1) * W ≤ count * W := Nat.mul_le_mul_right _ (by omega)
    rw [Nat.add_mul] at this
    omega
  have key : ∀ q, urun (W : Int) count ((List.range (count * W + q)).map g) = if ∀ j, j < q → g (count * W + j) = 0 then some (outF g W count (count * W), k, t) else none := by
    intro q
    induction q with
    | zero => rw [Nat.add_zero, h1, if_pos (fun j hj => absurd hj (by omega))]
    | succ q ih =>
      rw [← Nat.add_assoc, List.range_succ, List.map_append, List.map_cons, List.map_nil, urun_snoc, ih]
      by_cases c : ∀ j, j < q → g (count * W + j) = 0
      · rw [if_pos c, Option.bind_some]
        unfold ust
        rw [if_neg hno]
        by_cases d : g (count * W + q) = 0
        · rw [if_pos d, if_pos (fun j hj => by rcases Nat.lt_or_ge j q with e | e; exact c j e; rw [show j = q by omega]; exact d)]
        · rw [if_neg d, if_neg (fun h => d (h q (by omega)))]
      · rw [if_neg c, if_neg (fun h => c (fun j hj => h j (by omega)))]; rfl
  rw [key]
  by_cases c : ∀ j, j < q → g (count * W + j) = 0
  · rw [if_pos c, if_pos c]
  · rw [if_neg c, if_neg c]
def UnpackR (l : List Int) (w n : Int) : List Int × Int :=
  if (SizeR w n).2 = 0 then (if (l.length : Int) < (SizeR w n).1 then ([], 6) else if (SizeR w n).1 < (l.length : Int) then ([], 7) else
    if ∀ j, j < 8 * l.length - n.toNat * w.toNat → bt l (n.toNat * w.toNat + j) = 0 then (outF (bt l) w.toNat n.toNat (n.toNat * w.toNat), 0) else ([], 8)) else ([], (SizeR w n).2)
theorem unpack {k : Nat} {l : List Int} {w n : Int} (hk : 1 ≤ k) (hl : ∀ x ∈ l, 0 ≤ x ∧ x ≤ 255) (hlen : l.length ≤ 1048576) : bits_Unpack.f k l w n = some (UnpackR l w n) := by
  unfold bits_Unpack.f UnpackR
  rw [size hk, Option.bind_some]
  by_cases c : (SizeR w n).2 = 0
  · obtain ⟨h1, h2, h3, h4, h5, h6⟩ := SizeR_ok c
    rw [if_pos c, if_pos c]
    by_cases d : (l.length : Int) < (SizeR w n).1
    · rw [if_pos d, if_pos d]
    · rw [if_neg d, if_neg d]
      by_cases e : (SizeR w n).1 < (l.length : Int)
      · rw [if_pos e, if_pos e]
      · rw [if_neg e, if_neg e, if_pos ⟨h1, h2, h3, h4, hlen⟩]
        obtain ⟨W, rfl⟩ := Int.eq_ofNat_of_zero_le h1
        obtain ⟨m, rfl⟩ := Int.eq_ofNat_of_zero_le h3
        have hm : ((m * W : Nat) : Int) = (m : Int) * (W : Int) := Int.natCast_mul _ _
        rw [show ((W : Int)).toNat = W from rfl, show ((m : Int)).toNat = m from rfl, allB_eq hl]
        have := urun_out (bt l) (bt_range l) W m (by omega) (8 * l.length - m * W)
        rw [show m * W + (8 * l.length - m * W) = 8 * l.length by omega] at this
        exact congrArg some this
  · rw [if_neg c, if_neg c]
end Go.Proofs.Ytcklkngljapecaa.L1
end

section
namespace Go.Proofs.Ytcklkngljapecaa.L10
set_option linter.unusedVariables false
set_option linter.unusedSimpArgs false
open Go.RowKit Go.Proofs.Ytcklkngljapecaa.X Go.Proofs.YtcklkngljapecaaW.PrintWords Go.Proofs.YtcklkngljapecaaW.PrintLast Go.Proofs.YtcklkngljapecaaW.PrintMore Go.Proofs.Ytcklkngljapecaa.Bx Go.Proofs.Ytcklkngljapecaa.Nx Go.Proofs.Ytcklkngljapecaa.Px Go.Proofs.Ytcklkngljapecaa.L1
abbrev D := S30
abbrev z : D := z30
theorem check {k s : Int} (h : (Lit.int .i64 k).wf = true) : datum_Check.f k s = some (if chkB k s = true then 0 else 2) := by
  unfold datum_Check.f
  rw [if_pos h]
theorem ref_check {K : Nat} {k s : Int} (hK : 1 ≤ K) : marquetryref09_Check.f K k s = some (chkB k s) := by
  obtain ⟨K, rfl⟩ : ∃ j, K = j + 1 := ⟨K - 1, by omega⟩
  unfold marquetryref09_Check.f
  simp only [marquetryref09_Check.j0]
  by_cases h0 : k = 0
  · subst h0; simp [chkB, kindsF, bne]
  by_cases h1 : k = 1
  · subst h1; simp [chkB, kindsF, bne]
  by_cases h2 : k = 2
  · subst h2; simp [chkB, kindsF, bne]
  by_cases h4 : k = 4
  · subst h4; simp [chkB, kindsF, bne]
  by_cases h5 : k = 5
  · subst h5; simp [chkB, kindsF, bne]
  by_cases h6 : k = 6
  · subst h6; simp [chkB, kindsF, bne]
  by_cases h7 : k = 7
  · subst h7
    by_cases s1 : s ≥ 1
    · simp [chkB, kindsF, s1]
    · simp [chkB, kindsF, s1]
  · simp [chkB, kindsF, h0, h1, h2, h4, h5, h6, h7]
theorem chk_kind {k s : Int} (h : chkB k s = true) : (k = 0 ∨ k = 1 ∨ k = 2 ∨ k = 4 ∨ k = 5 ∨ k = 6 ∨ k = 7) ∧ (k = 7 → 1 ≤ s ∧ s ≤ 1048576) := by
  by_cases h7 : k = 7
  · subst h7
    refine ⟨by simp, fun _ => ?_⟩
    simpa [chkB, kindsF] using h
  · refine ⟨?_, fun e => absurd e h7⟩
    unfold chkB kindsF at h
    rw [if_neg h7] at h
    by_cases h6 : k = 6
    · simp [h6]
    by_cases h5 : k = 5
    · simp [h5]
    by_cases h4 : k = 4
    · simp [h4]
    by_cases h2 : k = 2
    · simp [h2]
    by_cases h1 : k = 1
    · simp [h1]
    by_cases h0 : k = 0
    · simp [h0]
    · rw [if_neg h6, if_neg h5, if_neg h4, if_neg h2, if_neg h1, if_neg h0] at h
      simp at h
def numV (k n : Int) : Int := if k = 1 then wrap64 (wrap32 (n % 4294967296)) else wrap64 n
def FrontS (k s : Int) (l : List Int) : D × Int :=
  if k = 6 then (if (l.length : Int) < 4 then (z, 0) else if leS (win l 0 4) > (l.length : Int) - 4 then (z, 0) else (⟨6, 0, strOfNums ((l.take (4 + leS (win l 0 4)).toNat).drop 4)⟩, 4 + leS (win l 0 4)))
  else if k = 7 then (if (l.length : Int) < s then (z, 0) else (⟨7, 0, strOfNums (l.take s.toNat)⟩, s))
  else if (l.length : Int) < wide k then (z, 0) else (⟨k, numV k (leS (win l 0 (wide k).toNat)), ⟨#[]⟩⟩, wide k)
theorem wide_range (k : Int) : wide k = 4 ∨ wide k = 8 := by unfold wide; split <;> simp
theorem readL {l : List Int} {m : Int} (hm : m = 4 ∨ m = 8) : ReadLittleR l 0 m = if (l.length : Int) < m then (0, 6) else (leS (win l 0 m.toNat), 0) := by
  unfold ReadLittleR
  rw [if_neg (by omega)]
  by_cases c : (l.length : Int) < m
  · rw [if_pos (by omega), if_pos c]
  · rw [if_neg (by omega), if_neg c]; rfl
theorem front {F : Nat} {k s : Int} {l : List Int} (hF : 12 ≤ F) (hl : ∀ x ∈ l, 0 ≤ x ∧ x ≤ 255) (hlen : l.length ≤ 1048576) (hs : k = 7 → 1 ≤ s) : rdBy F k s l = some (FrontS k s l) := by
  unfold rdBy FrontS
  by_cases h6 : k = 6
  · rw [if_pos h6, if_pos h6]
    unfold rdLong
    rw [readLittle hF hl (by omega) (by omega), readL (.inl rfl), Option.bind_some]
    by_cases c : (l.length : Int) < 4
    · rw [if_pos c, if_pos c]; simp
    · rw [if_neg c, if_neg c]
      have h0 := (leS_win_lt hl (show 0 + 4 ≤ l.length by omega)).1
      rw [if_pos rfl, if_pos ⟨by omega, by omega, h0⟩]
      rfl
  rw [if_neg h6, if_neg h6]
  by_cases h7 : k = 7
  · rw [if_pos h7, if_pos h7]
    unfold rdFixed
    rw [if_pos (by have := hs h7; omega)]
  rw [if_neg h7, if_neg h7]
  unfold rdWhole
  have hw := wide_range k
  rw [readLittle hF hl (by omega) (by omega), readL hw, Option.bind_some]
  by_cases c : (l.length : Int) < wide k
  · rw [if_pos c, if_pos c]; simp
  · rw [if_neg c, if_neg c, if_pos rfl]
    rfl
theorem FrontS_size {k s : Int} {l : List Int} (hl : ∀ x ∈ l, 0 ≤ x ∧ x ≤ 255) (hs : k = 7 → 1 ≤ s) : 0 ≤ (FrontS k s l).2 ∧ (FrontS k s l).2 ≤ l.length := by
  unfold FrontS
  by_cases h6 : k = 6
  · rw [if_pos h6]
    by_cases c : (l.length : Int) < 4
    · rw [if_pos c]; dsimp only; omega
    · have h0 := (leS_win_lt hl (show 0 + 4 ≤ l.length by omega)).1
      rw [if_neg c]
      split <;> (dsimp only; omega)
  rw [if_neg h6]
  by_cases h7 : k = 7
  · have := hs h7
    rw [if_pos h7]
    split <;> (dsimp only; omega)
  rw [if_neg h7]
  have hw := wide_range k
  split <;> (dsimp only; omega)
theorem numV_eq {n : Int} (h0 : 0 ≤ n) (h1 : n < 4294967296) : wrap64 (wrap32 (n % 4294967296)) = if wrap64 n > 2147483647 then wrap64 (wrap64 n - 4294967296) else wrap64 n := by
  have e := w64 (a := n) (by omega) (by omega)
  rw [Int.emod_eq_of_lt h0 h1, e]
  by_cases c : n > 2147483647
  · rw [if_pos c]
    have : wrap32 n = n - 4294967296 := by unfold wrap32; omega
    rw [this]
  · rw [if_neg c]
    have : wrap32 n = n := by unfold wrap32; omega
    rw [this, e]
theorem ref_front {K : Nat} {k s : Int} {l : List Int} (hK : 20 ≤ K) (hl : ∀ x ∈ l, 0 ≤ x ∧ x ≤ 255) (hlen : l.length ≤ 1048576) (hs : k = 7 → 1 ≤ s) (hk : k = 1 ∨ k = 2 ∨ k = 4 ∨ k = 5 ∨ k = 6 ∨ k = 7) :
    marquetryref09_Front.f K l k s = some ((FrontS k s l).1.f0, (FrontS k s l).1.f1, (FrontS k s l).1.f2, (FrontS k s l).2) := by
  unfold marquetryref09_Front.f FrontS
  by_cases h6 : k = 6
  · rw [if_pos h6, if_pos h6, ref_readLittle (by omega) hl (by omega) (by omega), readL (.inl rfl), Option.bind_some]
    by_cases c : (l.length : Int) < 4
    · rw [if_pos c, if_pos c]; rfl
    · have h0 := (leS_win_lt hl (show 0 + 4 ≤ l.length by omega)).1
      rw [if_neg c, if_neg c, if_pos rfl, if_pos ⟨by omega, by omega, h0⟩]
      have e4 : (4 : Int).toNat = 4 := rfl
      dsimp only
      rw [e4]
      by_cases d : leS (win l 0 4) > (l.length : Int) - 4
      · rw [if_pos d, if_pos d]; rfl
      · rw [if_neg d, if_neg d]
  rw [if_neg h6, if_neg h6]
  by_cases h7 : k = 7
  · rw [if_pos h7, if_pos h7, if_pos (by have := hs h7; omega)]
    by_cases c : (l.length : Int) < s
    · rw [if_pos c, if_pos c]; rfl
    · rw [if_neg c, if_neg c]
  rw [if_neg h7, if_neg h7, if_pos (by omega)]
  have hw := wide_range k
  by_cases c : (l.length : Int) < wide k
  · rw [if_pos c, if_pos c]; rfl
  · rw [if_neg c, if_neg c, ref_readLittle (by omega) hl (by omega) (by omega), readL hw, if_neg c, Option.bind_some]
    obtain ⟨g0, g1⟩ := leS_win_lt hl (show 0 + (wide k).toNat ≤ l.length by omega)
    unfold fNum numV
    by_cases h1 : k = 1
    · rw [if_pos h1, if_pos h1]
      have e4 : (wide k).toNat = 4 := by unfold wide; rw [if_pos (.inl h1)]; rfl
      rw [e4] at g0 g1 ⊢
      rw [numV_eq g0 g1]
    · rw [if_neg h1, if_neg h1]
def truth (b : Int) : D := ⟨0, b, ⟨#[]⟩⟩
def goS (k s : Int) (b : List Int) : Nat → Int → List D → List D × Int
  | 0, at_, acc => if at_ < (b.length : Int) then ([], 7) else (acc, 0)
  | n + 1, at_, acc => if (FrontS k s (b.drop at_.toNat)).2 = 0 then ([], 6) else goS k s b n (at_ + (FrontS k s (b.drop at_.toNat)).2) (acc ++ [(FrontS k s (b.drop at_.toNat)).1])
theorem drop_u8 {b : List Int} (hb : ∀ x ∈ b, 0 ≤ x ∧ x ≤ 255) (n : Nat) : ∀ x ∈ b.drop n, 0 ≤ x ∧ x ≤ 255 := fun x hx => hb x (List.mem_of_mem_drop hx)
theorem go_prog {F : Nat} {k s : Int} {b : List Int} (hF : 12 ≤ F) (hb : ∀ x ∈ b, 0 ≤ x ∧ x ≤ 255) (hl : b.length ≤ 1048576) (hs : k = 7 → 1 ≤ s) : ∀ (n : Nat) (at_ : Int) (acc : List D), 0 ≤ at_ → at_ ≤ b.length → acc.length + n ≤ 1000000 → rdGo F k s b n at_ acc = some (goS k s b n at_ acc)
  | 0, at_, acc, _, _, _ => rfl
  | n + 1, at_, acc, h0, h1, h2 => by
    have hd := drop_u8 hb at_.toNat
    obtain ⟨g0, g1⟩ := FrontS_size (k := k) (s := s) hd hs
    have hlen : (b.drop at_.toNat).length = b.length - at_.toNat := List.length_drop
    rw [rdGo, if_pos ⟨h0, h1⟩, front hF hd (by omega) hs, Option.bind_some, goS]
    by_cases c : (FrontS k s (b.drop at_.toNat)).2 = 0
    · rw [if_pos c, if_pos c]
    · rw [if_neg c, if_neg c, if_pos (by omega), w64 (by omega) (by omega)]
      exact go_prog hF hb hl hs n _ _ (by omega) (by omega) (by simp; omega)
theorem truths_l {xs : List Int} (hx : ∀ x ∈ xs, x = 0 ∨ x = 1) : ∀ (l1 l0 : List Int) (K : Nat) (acc : List D), xs = l0 ++ l1 → xs.length ≤ 2200000 ∧ acc.length + l1.length ≤ 2200000 → l1.length < K → plain_truths.l0 K acc xs (xs.length : Int) (l0.length : Int) = some (acc ++ l1.map truth, 0)
  | [], l0, K, acc, he, hl, hK => by
    obtain ⟨K, rfl⟩ : ∃ j, K = j + 1 := ⟨K - 1, by omega⟩
    rw [List.append_nil] at he
    subst he
    rw [plain_truths.l0, if_neg (by omega)]; simp
  | x :: l1, l0, K, acc, he, hl, hK => by
    obtain ⟨K, rfl⟩ : ∃ j, K = j + 1 := ⟨K - 1, by omega⟩
    have hll : xs.length = l0.length + (l1.length + 1) := by rw [he]; simp
    have hl1 := hl.1
    have hl2 := hl.2
    rw [List.length_cons] at hl2
    have hrd : rd xs (l0.length : Int) = x := by
      unfold rd
      rw [he, List.getD_eq_getElem?_getD, show ((l0.length : Int)).toNat = l0.length from rfl, List.getElem?_append_right (Nat.le_refl _)]; simp
    have ih := truths_l hx l1 (l0 ++ [x]) K (acc ++ [truth x]) (by rw [he]; simp) ⟨hl.1, by have := hl.2; simp at this ⊢; omega⟩ (by rw [List.length_cons] at hK; omega)
    rw [plain_truths.l0, if_pos (by omega), if_pos (by omega), if_pos (by omega), hrd]
    have hb : datum_Bool.f (x == 1) = some (0, x, ⟨#[]⟩) := by
      rcases hx x (by rw [he]; simp) with rfl | rfl <;> rfl
    rw [hb, Option.bind_some, if_pos (by omega), w64 (by omega) (by omega)]
    simp only [List.length_append, List.length_singleton] at ih
    rw [show ((l0.length : Int) + 1) = ((l0.length + 1 : Nat) : Int) by omega]
    show plain_truths.l0 K (acc ++ [truth x]) xs (xs.length : Int) ((l0.length + 1 : Nat) : Int) = _
    rw [ih]; simp
theorem unpack_bits {l : List Int} {n : Int} : ∀ x ∈ (UnpackR l 1 n).1, x = 0 ∨ x = 1 := by
  intro x hx
  unfold UnpackR at hx
  by_cases c : (SizeR 1 n).2 = 0
  · rw [if_pos c] at hx
    by_cases d : (l.length : Int) < (SizeR 1 n).1
    · rw [if_pos d] at hx; cases hx
    rw [if_neg d] at hx
    by_cases e : (SizeR 1 n).1 < (l.length : Int)
    · rw [if_pos e] at hx; cases hx
    rw [if_neg e] at hx
    by_cases f : ∀ j, j < 8 * l.length - n.toNat * (1 : Int).toNat → bt l (n.toNat * (1 : Int).toNat + j) = 0
    · rw [if_pos f] at hx
      obtain ⟨i, hi, rfl⟩ := List.getElem_of_mem hx
      rw [outF_length] at hi
      have e2 := outF_get (bt l) (1 : Int).toNat n.toNat (n.toNat * (1 : Int).toNat) i hi
      unfold rd at e2
      rw [show ((i : Int)).toNat = i from rfl, List.getD_eq_getElem?_getD, List.getElem?_eq_getElem (by rw [outF_length]; exact hi)] at e2
      have e3 := valF_range (bt_range l) (min (1 : Int).toNat (n.toNat * (1 : Int).toNat - i * (1 : Int).toNat)) (i * (1 : Int).toNat)
      rw [show min (1 : Int).toNat (n.toNat * (1 : Int).toNat - i * (1 : Int).toNat) = 1 by have : (1 : Int).toNat = 1 := rfl; rw [this]; omega] at e2 e3
      simp only [Option.getD_some] at e2
      rw [e2]
      omega
    · rw [if_neg f] at hx; cases hx
  · rw [if_neg c] at hx; cases hx
theorem unpack_len {l : List Int} {n : Int} (h : n ≤ 65536) : (UnpackR l 1 n).1.length ≤ 65536 := by
  unfold UnpackR
  split
  · split
    · simp
    · split
      · simp
      · split
        · rw [outF_length]; omega
        · simp
  · simp
def ReadS (l : List Int) (k s n : Int) : List D × Int :=
  if chkB k s = false then ([], 2) else if n < 0 then ([], 2) else if (l.length : Int) > 1048576 then ([], 3) else if n > 65536 then ([], 3) else if k = 0 then (if (UnpackR l 1 n).2 = 0 then ((UnpackR l 1 n).1.map truth, 0) else ([], (UnpackR l 1 n).2))
  else goS k s l n.toNat 0 []
theorem read {F : Nat} {l : List Int} {k s n : Int} (hF : 100000 ≤ F) (hl : ∀ x ∈ l, 0 ≤ x ∧ x ≤ 255) (hk : (Lit.int .i64 k).wf = true) : plain_Read.f F l k s n = some (ReadS l k s n) := by
  unfold plain_Read.f ReadS
  rw [check hk, Option.bind_some]
  cases hc : chkB k s with
  | false => simp
  | true =>
    obtain ⟨hkk, hs⟩ := chk_kind hc
    rw [if_pos rfl, if_neg (show ¬ ((0 : Int) ≠ 0) by simp), if_neg (show ¬ (true = false) by simp)]
    by_cases c2 : n < 0
    · rw [if_pos c2, if_pos c2]
    rw [if_neg c2, if_neg c2]
    by_cases c3 : (l.length : Int) > 1048576
    · rw [if_pos c3, if_pos c3]
    rw [if_neg c3, if_neg c3]
    by_cases c4 : n > 65536
    · rw [if_pos c4, if_pos c4]
    rw [if_neg c4, if_neg c4]
    by_cases c5 : k = 0
    · rw [if_pos c5, if_pos c5]
      unfold plain_truths.f
      rw [unpack (by omega) hl (by omega), Option.bind_some]
      by_cases c6 : (UnpackR l 1 n).2 = 0
      · rw [if_pos c6, if_pos c6]
        have hlen := unpack_len (l := l) (n := n) (by omega)
        have := truths_l (unpack_bits (l := l) (n := n)) (UnpackR l 1 n).1 [] F [] rfl ⟨by omega, by simp; omega⟩ (by omega)
        simpa using this
      · rw [if_neg c6, if_neg c6]
    · rw [if_neg c5, if_neg c5, if_pos (by omega)]
      exact go_prog (by omega) hl (by omega) (fun h => (hs h).1) _ _ _ (by omega) (by omega) (by simp; omega)
theorem same_l {xs : List D} (hl : xs.length ≤ 1000000) : ∀ (d K : Nat) (i : Int), 0 ≤ i → i + d = xs.length → d < K → marquetryref09_SameAll.l0 K xs xs i = some true
  | 0, K, i, h0, h1, hK => by
    obtain ⟨K, rfl⟩ : ∃ j, K = j + 1 := ⟨K - 1, by omega⟩
    rw [marquetryref09_SameAll.l0, if_neg (by omega)]
  | d + 1, K, i, h0, h1, hK => by
    obtain ⟨K, rfl⟩ : ∃ j, K = j + 1 := ⟨K - 1, by omega⟩
    rw [marquetryref09_SameAll.l0, if_pos (by omega), if_pos h0, if_pos (by omega), if_neg (by simp), w64 (by omega) (by omega)]
    exact same_l hl d K (i + 1) (by omega) (by omega) (by omega)
theorem same {K : Nat} {xs : List D} (hl : xs.length ≤ 1000000) (hK : 1000001 ≤ K) : marquetryref09_SameAll.f K xs xs = some true := by
  unfold marquetryref09_SameAll.f
  rw [if_pos rfl]
  exact same_l hl xs.length K 0 (by omega) (by omega) (by omega)
end Go.Proofs.Ytcklkngljapecaa.L10
end

section
namespace Go.Proofs.Ytcklkngljapecaa.X
open Go.RowKit Go.Proofs.YtcklkngljapecaaW.PrintWords Go.Proofs.YtcklkngljapecaaW.PrintLast Go.Proofs.YtcklkngljapecaaW.PrintMore Go.Shelf Go.Proofs.Ytcklkngljapecaa.L10
attribute [local go_sem] Oper.semAt_some
set_option linter.unusedVariables false
set_option linter.unusedSimpArgs false
def encP (x : Int × S30) : Array Value := #[.int .i64 x.1, .agg #[.int .i64 x.2.f0, .int .i64 x.2.f1, .string x.2.f2]]
def itemsGo (k s : Int) (b : List Int) : Nat → Int → List (Int × S30)
  | 0, _ => []
  | d + 1, at_ => if (FrontS k s (b.drop at_.toNat)).2 = 0 then [] else (at_, (FrontS k s (b.drop at_.toNat)).1) :: itemsGo k s b d (at_ + (FrontS k s (b.drop at_.toNat)).2)
def bitItems (b : List Int) (m : Nat) : List (Int × S30) := (List.range m).map fun (i : Nat) => ((i : Int), truth (bitv (b.getD (i / 8) 0) (i % 8)))
def items (k s : Int) (b : List Int) : List (Int × S30) := if chkB k s = false then [] else if k = 0 then bitItems b (8 * b.length) else itemsGo k s b (b.length + 1) 0
def itemG (k s : Int) (b : List Int) (pre : List (Int × S30)) (x : Int × S30) (_ : World) : Prop := ∃ r, (pre ++ [x]) ++ r = items k s b
def itemP (k s : Int) (b : List Int) (pre : List (Int × S30)) : Prop := ∃ r, pre ++ r = items k s b
theorem FrontS_nil (k s : Int) (hs : k = 7 → 1 ≤ s) : (FrontS k s []).2 = 0 := by
  unfold FrontS
  by_cases h6 : k = 6
  · rw [if_pos h6, if_pos (by simp)]
  rw [if_neg h6]
  by_cases h7 : k = 7
  · have := hs h7
    rw [if_pos h7, if_pos (by simp; omega)]
  have := wide_range k
  rw [if_neg h7, if_pos (by simp; omega)]
theorem YieldAt.any {m m' : Nat} {P : Program} {l : Nat} {args : Array Value} {W : World} {R : Ending → World → Prop} (h : YieldAt Fence.wide m P l args W R) : YieldAt Fence.wide m' P l args W R := by
  obtain ⟨fn, tmps, assign, body, hy, hR⟩ := h
  exact ⟨fn, tmps, assign, body, hy, hR.1, fun c cs _ => hR.2 c cs (fun d h => by cases h)⟩
theorem YieldAt.round {m : Nat} {P : Program} {l l0 : Nat} {args : Array Value} {W : World} {R : Ending → World → Prop} (h : YieldAt Fence.wide m P l args W R) : YieldAt (Fence.wide.inRound l0) m P l args W R := h
structure AllH (w0 W : World) (A : Option Addr) (c : Nat) (b : List Int) (k s : Int) (gb gt : Nat) (X : Nat → Prop) : Prop where
  hC : Kd.C (Kd.int .u8) w0 A b.length b
  hc : b.length ≤ c
  hlen : b.length ≤ 500
  hu : ∀ x ∈ b, 0 ≤ x ∧ x ≤ 255
  hk : (Lit.int .i64 k).wf = true
  hb : Below w0.heap.size w0 W
  hgb : W.heap[gb]? = some (.cells #[.slice A b.length c] 22 (0, 0))
  hgt : W.heap[gt]? = some (.cells #[.int .i64 k, .int .i64 s] 25 (0, 0))
  hXn : ∀ i, X i → w0.heap.size ≤ i
  hXb : ¬ X gb
  hXt : ¬ X gt
  hXW : ∀ i, W.heap.size ≤ i → ¬ X i
theorem exit_named {K : Act → World → Prop} {Q : Exit → Act → World → Prop} {e : Exit} {a : Act} {w : World} (h : ∀ W, W = w → Exit.then K Q e a W) : Exit.then K Q e a w := h _ rfl
def AllLays (n : Nat) (w0 W : World) (A : Option Addr) (c : Nat) (b : List Int) (k s : Int) (gb gt : Nat) (X : Nat → Prop) : Prop :=
  SeqLays Fence.wide n Try.prog 17 #[.pointer (some ⟨gt, 0, none⟩), .pointer (some ⟨gb, 0, none⟩)] encP (Below W.heap.size) (KeepsBut X) (itemG k s b) (fun xs => xs = items k s b) (itemP k s b) (items k s b).length W
theorem chk_of {k s : Int} (hk : (Lit.int .i64 k).wf = true) (W : World) : Calls Try.prog 18 #[.agg #[.int .i64 k, .int .i64 s]] W fun e w' => e = .returned (.int .i64 (if chkB k s = true then 0 else 2)) ∧ Below W.heap.size W w' := datum_Check.calls k s _ W (check hk)
set_option maxRecDepth 100000 in
set_option maxHeartbeats 8000000 in
theorem all1_refused (n : Nat) (hn : 1 ≤ n) {w0 W : World} {A : Option Addr} {c : Nat} {b : List Int} {k s : Int} {gb gt : Nat} {X : Nat → Prop} (h : AllH w0 W A c b k s gb gt X) (hchk : chkB k s = false) : AllLays n w0 W A c b k s gb gt X := by
  intro l J Jx hJ hJx hY h0
  have hu25 := Try.underlying25
  have hIt : items k s b = [] := by unfold items; rw [if_pos hchk]
  have HCHK := fun W => chk_of (s := s) h.hk W
  rw [hchk] at HCHK
  have HJ := Aside0.mk (show ∀ B, Below W.heap.size W B → J [] B from fun B hB => hJ _ _ _ h0 hB)
  have q0 : W.cell? ⟨gt, 0, none⟩ = some (.int .i64 k) := blk_cell h.hgt 0
  have q1 : W.cell? ⟨gt, 1, none⟩ = some (.int .i64 s) := blk_cell h.hgt 1
  have hlt := blk_lt h.hgt
  have hne : gt ≠ W.heap.size := by omega
  have HB0 := Aside0.mk (Below.refl W.heap.size W)
  have HIT := Aside0.mk hIt
  clear hJ hJx hY h0 hchk hIt h
  refine callsIn_of_wp Try.func17 rfl trivial ?_ rfl
  simp only [Try.ntmps17, List.size_toArray, List.length_cons, List.length_nil, Nat.reduceAdd, Nat.reduceSub, Array.replicate_succ, Array.replicate_zero, List.push_toArray, List.append_toArray, List.nil_append, List.cons_append]
  gi_wp2_with (refine ⟨trivial, ?_⟩; gi_at_call 18; refine (callsIn_wide.2 (HCHK _)).mono ?_; rintro e W1 ⟨rfl, hb⟩)
  refine bodyPost_ret (results_none rfl _ _ _) rfl ?_
  exact ⟨⟨_, rfl⟩, .inl ⟨[], HIT.out.symm, HJ.out _ (below_step (below_alloc HB0.out _) hb)⟩⟩
theorem itemsGo_step {k s : Int} {b : List Int} {d : Nat} {at_ : Int} (h : (FrontS k s (b.drop at_.toNat)).2 ≠ 0) : itemsGo k s b (d + 1) at_ = (at_, (FrontS k s (b.drop at_.toNat)).1) :: itemsGo k s b d (at_ + (FrontS k s (b.drop at_.toNat)).2) := by rw [itemsGo, if_neg h]
theorem itemsGo_none {k s : Int} {b : List Int} {d : Nat} {at_ : Int} (h : (FrontS k s (b.drop at_.toNat)).2 = 0) : itemsGo k s b d at_ = [] := by
  cases d with
  | zero => rfl
  | succ d => rw [itemsGo, if_pos h]
theorem itemsGo_len {k s : Int} {b : List Int} (hs : k = 7 → 1 ≤ s) {d : Nat} : itemsGo k s b d (b.length : Int) = [] := itemsGo_none (by rw [Int.toNat_natCast, List.drop_length]; exact FrontS_nil k s hs)
theorem way_new (W1 : World) (t : TypeId) (cs : Array Value) : ∃ W0, W0 = W1.alloc (.cells cs t) ∧ W0.heap[W1.heap.size]? = some (.cells cs t (0, 0)) ∧ Below W1.heap.size W1 W0 := ⟨_, rfl, blk_new _ _, below_alloc (Below.refl _ _) _⟩
structure AllR (w0 W wr : World) (A : Option Addr) (c : Nat) (b : List Int) (gb gw : Nat) (l : Nat) (wc : Array Value) : Prop where
  b0 : Below w0.heap.size w0 wr
  sz : W.heap.size ≤ wr.heap.size
  rb : wr.heap[gb]? = some (.cells #[.slice A b.length c] 22 (0, 0))
  rw : wr.heap[gw]? = some (.cells wc 62 (0, 0))
  ry : wr.heap[W.heap.size]? = some (.cells #[.func (.yield l) #[] #[]] 52 (0, 0))
  hgw : W.heap.size ≤ gw
theorem AllR.step {w0 W wr wx : World} {A : Option Addr} {c : Nat} {b : List Int} {gb gw l : Nat} {wc : Array Value} (h : AllR w0 W wr A c b gb gw l wc) (hb : Below wr.heap.size wr wx) : AllR w0 W wx A c b gb gw l wc :=
  ⟨h.b0.trans (hb.mono h.b0.size), Nat.le_trans h.sz hb.size, blk_below h.rb hb, blk_below h.rw hb, blk_below h.ry hb, h.hgw⟩
theorem AllR.round {w0 W wr wx : World} {A : Option Addr} {c : Nat} {b : List Int} {gb gw l : Nat} {wc : Array Value} {X : Nat → Prop} (h : AllR w0 W wr A c b gb gw l wc) (hX1 : ∀ i, X i → w0.heap.size ≤ i) (hX2 : ∀ i, W.heap.size ≤ i → ¬ X i) (hX3 : ¬ X gb) (hk : KeepsBut X wr wx) : AllR w0 W wx A c b gb gw l wc :=
  ⟨h.b0.trans (hk.below h.b0.size hX1), Nat.le_trans h.sz hk.size, hk.at h.rb hX3, hk.at h.rw (hX2 _ h.hgw), hk.at h.ry (hX2 _ (Nat.le_refl _)), h.hgw⟩
end Go.Proofs.Ytcklkngljapecaa.X
end

section
namespace Go.Proofs.Ytcklkngljapecaa.X
open Go.RowKit Go.Proofs.YtcklkngljapecaaW.PrintWords Go.Proofs.YtcklkngljapecaaW.PrintLast Go.Proofs.YtcklkngljapecaaW.PrintMore Go.Shelf Go.Proofs.Ytcklkngljapecaa.L10
attribute [local go_sem] Oper.semAt_some
set_option linter.unusedVariables false
set_option linter.unusedSimpArgs false
set_option maxRecDepth 100000 in
set_option maxHeartbeats 16000000 in
theorem all1_W (n : Nat) (hn : 1 ≤ n) {w0 W : World} {A : Option Addr} {c : Nat} {b : List Int} {k s : Int} {gb gt : Nat} {X : Nat → Prop} (h : AllH w0 W A c b k s gb gt X) (hchk : chkB k s = true) (hkind : k = 1 ∨ k = 4 ∨ k = 2 ∨ k = 5) : AllLays n w0 W A c b k s gb gt X := by
  intro l J Jx hJ hJx hY h0
  have hu25 := Try.underlying25
  have hu30 := Try.underlying30
  have hu62 := Try.underlying62
  have d0 : (k == 0) = false := beq_eq_false_iff_ne.2 (by rcases hkind with rfl | rfl | rfl | rfl <;> decide)
  have hlen := h.hlen
  have d2 : decide ((b.length : Int) > 1048576) = false := decide_eq_false (by omega)
  have hs : k = 7 → 1 ≤ s := fun e => ((chk_kind hchk).2 e).1
  have hIt : items k s b = itemsGo k s b (b.length + 1) 0 := by unfold items; rw [if_neg (by rw [hchk]; simp), if_neg (by rcases hkind with rfl | rfl | rfl | rfl <;> decide)]
  have HCHK := fun W => chk_of (s := s) h.hk W
  rw [hchk] at HCHK
  have HWAY := fun W => ways_calls k s (by rcases hkind with h | h | h | h <;> simp [h]) W
  have HJ := Aside0.mk (show ∀ pre A B, J pre A → Below W.heap.size A B → J pre B from hJ)
  have HJX := Aside0.mk (show ∀ pre A B, Jx pre A → Below W.heap.size A B → Jx pre B from hJx)
  have HY := Aside0.mk hY
  have HH := Aside0.mk h
  have H0 := Aside0.mk h0
  have q0 : W.cell? ⟨gt, 0, none⟩ = some (.int .i64 k) := blk_cell h.hgt 0
  have q1 : W.cell? ⟨gt, 1, none⟩ = some (.int .i64 s) := blk_cell h.hgt 1
  have hlt := blk_lt h.hgt
  have hne : gt ≠ W.heap.size := by omega
  have HIT := Aside0.mk hIt
  have HS := Aside0.mk hs
  have HK := Aside0.mk hkind
  clear hJ hJx hY h0 hchk hIt hs h hkind
  refine callsIn_of_wp Try.func17 rfl trivial ?_ rfl
  simp only [Try.ntmps17, List.size_toArray, List.length_cons, List.length_nil, Nat.reduceAdd, Nat.reduceSub, Array.replicate_succ, Array.replicate_zero, List.push_toArray, List.append_toArray, List.nil_append, List.cons_append]
  have HB0 := Aside0.mk (below_alloc (Below.refl W.heap.size W) (.cells #[.func (.yield l) #[] #[]] 52))
  have HY0 := Aside0.mk (blk_new W (.cells #[.func (.yield l) #[] #[]] 52))
  gi_wp2_with (refine ⟨trivial, ?_⟩; gi_at_call 18; refine (callsIn_wide.2 (HCHK _)).mono ?_; clear HCHK; rintro e W1 ⟨rfl, hb⟩; have HB1 := Aside0.mk (below_step HB0.out hb); have HY1 := Aside0.mk (blk_below HY0.out hb); clear HB0 HY0 hb; have q0 : W1.cell? ⟨gt, 0, none⟩ = some (.int .i64 k) := blk_cell ((HB1.out.block _ hlt).trans HH.out.hgt) 0; have q1 : W1.cell? ⟨gt, 1, none⟩ = some (.int .i64 s) := blk_cell ((HB1.out.block _ hlt).trans HH.out.hgt) 1; have qb : W1.cell? ⟨gb, 0, none⟩ = some (.slice A b.length c) := blk_cell ((HB1.out.block _ (blk_lt HH.out.hgb)).trans HH.out.hgb) 0)
  refine ⟨trivial, ?_⟩
  refine (callsIn_wide.2 (HWAY _)).mono ?_
  rintro e W2 ⟨v, rfl, hw, hb⟩
  have HB2 := Aside0.mk (below_step HB1.out hb)
  have HW1 := Aside0.mk HB1.out.size
  have HY2 := Aside0.mk (blk_below HY1.out hb)
  clear hb HB1 HY1 q0 q1 qb HWAY
  obtain ⟨g1, g2, rfl, G1, G2⟩ : ∃ g1 g2, v = wayW g1 g2 ∧ Aside0 (W2.heap[g1]? = some (.cells #[.int .i64 (wide k)] 3 (0, 0)) ∧ W1.heap.size ≤ g1) ∧ Aside0 (W2.heap[g2]? = some (.cells #[.int .i64 k] 23 (0, 0)) ∧ W1.heap.size ≤ g2) := by
    rcases hw with ⟨_, g1, g2, h1, z1, z2, h4, h5⟩ | ⟨h, _⟩ | ⟨h, _⟩
    · exact ⟨g1, g2, h1, ⟨h4, by omega⟩, ⟨h5, by omega⟩⟩
    · have := HK.out; omega
    · have := HK.out; omega
  clear hw
  unfold wayW ptr
  gi_wp2
  obtain ⟨W0, hW0, hgw, hb⟩ := way_new W2 62 #[.func (.func 48) #[] #[.pointer (some ⟨g1, 0, none⟩)], .func (.func 49) #[] #[.pointer (some ⟨g1, 0, none⟩)], .func (.func 51) #[] #[.pointer (some ⟨g1, 0, none⟩), .pointer (some ⟨g2, 0, none⟩)]]
  obtain ⟨gw, hgwe⟩ : ∃ gw, gw = W2.heap.size := ⟨_, rfl⟩
  rw [← hW0, ← hgwe]
  rw [← hgwe] at hgw
  have HR0 := Aside0.mk (show AllR w0 W W0 A c b gb gw l #[.func (.func 48) #[] #[.pointer (some ⟨g1, 0, none⟩)], .func (.func 49) #[] #[.pointer (some ⟨g1, 0, none⟩)], .func (.func 51) #[] #[.pointer (some ⟨g1, 0, none⟩), .pointer (some ⟨g2, 0, none⟩)]] from ⟨HH.out.hb.trans ((below_step HB2.out hb).mono HH.out.hb.size), (below_step HB2.out hb).size, (((below_step HB2.out hb)).block _ (blk_lt HH.out.hgb)).trans HH.out.hgb, hgw, blk_below HY2.out hb, by rw [hgwe]; exact HB2.out.size⟩)
  have HJ0 := Aside0.mk (HJ.out _ _ _ H0.out (below_step HB2.out hb))
  have HWZ := Aside0.mk (show W.heap.size ≤ W0.heap.size from (below_step HB2.out hb).size)
  have K1 := Aside0.mk (show _ ∧ W.heap.size ≤ g1 from ⟨blk_below G1.out.1 hb, by have := G1.out.2; have := HW1.out; omega⟩)
  have K2 := Aside0.mk (show _ ∧ W.heap.size ≤ g2 from ⟨blk_below G2.out.1 hb, by have := G2.out.2; have := HW1.out; omega⟩)
  clear G1 G2
  have hwz : W.heap.size ≤ gw := by rw [hgwe]; exact HB2.out.size
  have HB3 := Aside0.mk (below_step HB2.out hb)
  clear hW0 hgw hb HB2 HY2 H0 hgwe
  gi_loopw [7] (fun v7 wr => ∃ (at_ : Int) (d : Nat) (pre : List (Int × S30)), v7 = .int .i64 at_ ∧ 0 ≤ at_ ∧ at_ ≤ (b.length : Int) ∧ Aside0 ((b.length : Int) - at_ < d) ∧ Aside0 (pre ++ itemsGo k s b d at_ = items k s b) ∧ Aside0 (J pre wr) ∧ Aside0 (AllR w0 W wr A c b gb gw l #[.func (.func 48) #[] #[.pointer (some ⟨g1, 0, none⟩)], .func (.func 49) #[] #[.pointer (some ⟨g1, 0, none⟩)], .func (.func 51) #[] #[.pointer (some ⟨g1, 0, none⟩), .pointer (some ⟨g2, 0, none⟩)]]) ∧ Aside0 (wr.heap[g1]? = some (.cells #[.int .i64 (wide k)] 3 (0, 0)) ∧ W.heap.size ≤ g1) ∧ Aside0 (wr.heap[g2]? = some (.cells #[.int .i64 k] 23 (0, 0)) ∧ W.heap.size ≤ g2)) (fun v7 _ => b.length - (intOf v7).toNat)
  case atStart => exact ⟨0, b.length + 1, [], rfl, by omega, by omega, ⟨by omega⟩, ⟨HIT.out.symm⟩, HJ0, HR0 , K1, K2⟩
  case round =>
    clear HJ0 HR0 K1 K2
    obtain ⟨at_, d, pre, rfl, h0, h1, HD, HP, HJp, HR , K1, K2⟩ := hrel
    have qb : wr.cell? ⟨gb, 0, none⟩ = some (.slice A b.length c) := blk_cell HR.out.rb 0
    have qy : wr.cell? ⟨W.heap.size, 0, none⟩ = some (.func (.yield l) #[] #[]) := blk_cell HR.out.ry 0
    by_cases ci : at_ < (b.length : Int)
    · have q1 : decide (at_ < (b.length : Int)) = true := decide_eq_true ci
      obtain ⟨x, hx⟩ : ∃ x, x = (FrontS k s (b.drop at_.toNat)).1 := ⟨_, rfl⟩
      obtain ⟨m, hm⟩ : ∃ m, m = (FrontS k s (b.drop at_.toNat)).2 := ⟨_, rfl⟩
      have hfr : rdBy 12 k s (b.drop at_.toNat) = some (x, m) := by
        rw [front (by omega) (drop_u8 HH.out.hu _) (by rw [List.length_drop]; omega) HS.out, hx, hm]
      obtain ⟨i0, hi0, _, hsz, _⟩ := info_parts info5
      obtain ⟨A1, hcut, hDd, hC1⟩ := print_drop_of (P := Try.prog) (Value.int .u8) 0 22 5 .i64 Try.underlying22 hi0 hsz A c b at_ h0 h1 HH.out.hc
      obtain ⟨bb, hbl⟩ : ∃ bb, bb = b.drop at_.toNat := ⟨_, rfl⟩
      rw [← hbl] at hcut hDd hfr hC1
      have HD2 := Aside0.mk (Kd.C_of_reads (h1 := fun _ => rfl) (hDd _ (Kd.reads_of_C (Kd.C_below HH.out.hC HR.out.b0))))
      have HF := Aside0.mk hfr
      have HXM := Aside0.mk (And.intro hx hm)
      have HC2 : ∀ Wz, Below wr.heap.size wr Wz → Wz.cell? ⟨gw, 2, none⟩ = some (.func (.func 51) #[] #[.pointer (some ⟨g1, 0, none⟩), .pointer (some ⟨g2, 0, none⟩)]) := fun Wz hWz => (blk_cell (blk_below HR.out.rw hWz) 2).trans rfl
      have HCALL : ∀ Wz, Below wr.heap.size wr Wz → Calls Try.prog 51 #[.slice A1 bb.length (c - at_.toNat), .pointer (some ⟨g1, 0, none⟩), .pointer (some ⟨g2, 0, none⟩)] Wz fun e w' => e = .returned (.tuple #[.agg #[.int .i64 x.f0, .int .i64 x.f1, .string x.f2], .int .i64 m]) ∧ Below Wz.heap.size Wz w' := fun Wz hWz => rdWhole_calls 12 A1 _ bb k g1 g2 x m Wz (Kd.C_below HD2.out hWz) hC1 (blk_below K1.out.1 hWz) (blk_below K2.out.1 hWz) (by have h := HF.out; unfold rdBy at h; rwa [if_neg (by have := HK.out; omega), if_neg (by have := HK.out; omega)] at h)
      have HZ := Aside0.mk (blk_new wr (Obj.cells #[Value.int IntKind.i64 0, Value.int IntKind.i64 0, Value.string { data := #[] }] 30))
      have hBr : Below wr.heap.size wr wr := Below.refl _ _
      have hBQ : ∀ Wz, Below wr.heap.size wr Wz → Wz.cell? ⟨gb, 0, none⟩ = some (.slice A b.length c) := fun Wz hWz => (blk_cell (blk_below HR.out.rb hWz) 0).trans rfl
      clear hfr hbl hDd hx hm
      gi_wp2
      refine wpIn_wide.2 ?_
      go_region_held3 (fun w' => w'.cell? ⟨gw, 2, none⟩ = some (.func (.func 51) #[] #[.pointer (some ⟨g1, 0, none⟩), .pointer (some ⟨g2, 0, none⟩)]) ∧ w'.cell? ⟨gb, 0, none⟩ = some (.slice A b.length c)) (first | (refine ⟨HC2 _ ?_, (hBQ _ ?_)⟩ <;> repeat (first | exact hBr | exact hBr1 | apply below_drew1 | apply below_alloc | (refine below_set ?_ (by first | exact Nat.le_refl _ | exact hBr.size | exact hBr1.size)))))
        (first | (go_at_call 51; refine (HCALL _ (by repeat (first | exact hBr | apply below_drew1 | apply below_alloc))).mono ?_; rintro e Wy ⟨rfl, hb⟩; have hBr1 : Below wr.heap.size wr Wy := below_step (show Below wr.heap.size wr _ by repeat (first | exact hBr | apply below_drew1 | apply below_alloc)) hb; have hcl := fun (p : Addr) (hp : p.block < _) => hb.cell (p := p) hp; have hfr := fun (p : Addr) (hp : p.block < _) => hb.frozen (p := p) hp))
      all_goals refine exit_named fun Wx hWx => ?_
      all_goals (first | (have HGD := Aside0.mk (show Wx.heap[Wy.heap.size]? = some (.cells #[.int .i64 x.f0, .int .i64 x.f1, .string x.f2] 30 (0, 0)) from (by rw [hWx]; exact blk_new _ _)); have HBX := Aside0.mk (show Below wr.heap.size wr Wx from (by rw [hWx]; exact below_alloc hBr1 _))) | (have HGD := Aside0.mk (show Wx.heap[wr.heap.size]? = some (.cells #[.int .i64 x.f0, .int .i64 x.f1, .string x.f2] 30 (0, 0)) from (by rw [hWx]; exact blk_set (blk_set (blk_set (blk_below (by repeat (first | exact HZ.out | apply blk_drew)) hb) 0 _) 1 _) 2 _)); have HBX := Aside0.mk (show Below wr.heap.size wr Wx from (by rw [hWx]; exact below_set (below_set (below_set hBr1 (Nat.le_refl _)) (Nat.le_refl _)) (Nat.le_refl _)))))
      all_goals
        clear hWx hb hBr hBr1 HC2 HCALL HZ hBQ hcl hfr qb qy
        have y0 := (blk_cell HGD.out 0).trans rfl
        have y1 := (blk_cell HGD.out 1).trans rfl
        have y2 := (blk_cell HGD.out 2).trans rfl
        have HRx := Aside0.mk (HR.out.step HBX.out)
        have HJx2 := Aside0.mk (HJ.out _ _ _ HJp.out (HBX.out.mono HR.out.sz))
        have qy : Wx.cell? ⟨W.heap.size, 0, none⟩ = some (.func (.yield l) #[] #[]) := blk_cell HRx.out.ry 0
        have qb : Wx.cell? ⟨gb, 0, none⟩ = some (.slice A b.length c) := blk_cell HRx.out.rb 0
        by_cases cm : m = 0
        · have q3 : (m == 0) = true := by simp [cm]
          have hP := HP.out
          rw [itemsGo_none (by rw [← HXM.out.2]; exact cm), List.append_nil] at hP
          clear HP cm
          have HP := Aside0.mk hP
          clear hP
          gi_wp2
          refine ⟨fun _ h => (by cases h), ?_⟩
          gi_wp2
          refine bodyPost_ret (results_none rfl _ _ _) rfl ?_
          have hj := HJx2.out
          rw [HP.out] at hj
          exact ⟨⟨_, rfl⟩, .inl ⟨_, rfl, hj⟩⟩
        · have q3 : (m == 0) = false := beq_eq_false_iff_ne.2 cm
          obtain ⟨z0, z1⟩ := FrontS_size (k := k) (s := s) (drop_u8 HH.out.hu at_.toNat) HS.out
          rw [← HXM.out.2, List.length_drop] at z1
          rw [← HXM.out.2] at z0
          have hwr : IntKind.i64.wrap (at_ + m) = at_ + m := IntWalk.i64_in _ (by omega)
          obtain ⟨d, rfl⟩ : ∃ j, d = j + 1 := ⟨d - 1, by have := HD.out; omega⟩
          have hP := HP.out
          rw [itemsGo_step (by rw [← HXM.out.2]; exact cm), ← HXM.out.1, ← HXM.out.2] at hP
          have HP2 := Aside0.mk hP
          have HM := Aside0.mk (show at_ + m ≤ b.length ∧ 0 < m ∧ 0 ≤ at_ ∧ at_ < b.length by omega)
          obtain ⟨fn, tmps, assign, body, hy, hR2⟩ := HY.out pre (at_, x) Wx HJx2.out ⟨itemsGo k s b d (at_ + m), by rw [← hP]; simp⟩ (by rw [← hP]; simp)
          dsimp only [encP] at hy
          clear hP HP cm z0 z1
          gi_wp2
          refine hR2.mono ?_
          rintro e W3 (⟨rfl, hJ3, hk3⟩ | ⟨rfl, hJx3, _⟩)
          · have HR3 := Aside0.mk (HRx.out.round HH.out.hXn (fun i hi => HH.out.hXW i hi) HH.out.hXb hk3)
            have K1 := Aside0.mk (And.intro (hk3.at (blk_below K1.out.1 HBX.out) (HH.out.hXW _ K1.out.2)) K1.out.2)
            have K2 := Aside0.mk (And.intro (hk3.at (blk_below K2.out.1 HBX.out) (HH.out.hXW _ K2.out.2)) K2.out.2)
            have HJ3 := Aside0.mk hJ3
            have qb : W3.cell? ⟨gb, 0, none⟩ = some (.slice A b.length c) := blk_cell HR3.out.rb 0
            clear hJ3 hk3 hy hR2
            gi_wp2
            go_roundw
            case rel => exact ⟨at_ + m, d, pre ++ [(at_, x)], rfl, by have := HM.out; omega, HM.out.1, ⟨by have := HD.out; have := HM.out.2.1; omega⟩, ⟨by rw [← HP2.out]; simp⟩, HJ3, HR3 , K1, K2⟩
            case measure => have := HM.out; simp [intOf]; omega
          · have HJ3 := Aside0.mk hJx3
            clear hJx3 hy hR2
            gi_wp2
            refine bodyPost_ret (results_none rfl _ _ _) rfl ?_
            exact ⟨⟨_, rfl⟩, .inr ⟨_, ⟨itemsGo k s b d (at_ + m), by rw [← HP2.out]; simp⟩, HJ3.out⟩⟩
    · have q1 : decide (at_ < (b.length : Int)) = false := decide_eq_false ci
      obtain rfl : at_ = (b.length : Int) := by omega
      have hP := HP.out
      rw [itemsGo_len HS.out, List.append_nil] at hP
      clear HP
      have HP := Aside0.mk hP
      clear hP
      gi_wp2
      go_end0
      have hj := HJp.out
      rw [HP.out] at hj
      exact ⟨⟨_, rfl⟩, .inl hj⟩
end Go.Proofs.Ytcklkngljapecaa.X
end

section
namespace Go.Proofs.Ytcklkngljapecaa.X
open Go.RowKit Go.Proofs.YtcklkngljapecaaW.PrintWords Go.Proofs.YtcklkngljapecaaW.PrintLast Go.Proofs.YtcklkngljapecaaW.PrintMore Go.Shelf Go.Proofs.Ytcklkngljapecaa.L10
attribute [local go_sem] Oper.semAt_some
set_option linter.unusedVariables false
set_option linter.unusedSimpArgs false
set_option maxRecDepth 100000 in
set_option maxHeartbeats 16000000 in
theorem all1_L (n : Nat) (hn : 1 ≤ n) {w0 W : World} {A : Option Addr} {c : Nat} {b : List Int} {k s : Int} {gb gt : Nat} {X : Nat → Prop} (h : AllH w0 W A c b k s gb gt X) (hchk : chkB k s = true) (hkind : k = 6) : AllLays n w0 W A c b k s gb gt X := by
  intro l J Jx hJ hJx hY h0
  have hu25 := Try.underlying25
  have hu30 := Try.underlying30
  have hu62 := Try.underlying62
  have d0 : (k == 0) = false := beq_eq_false_iff_ne.2 (by subst hkind; decide)
  have hlen := h.hlen
  have d2 : decide ((b.length : Int) > 1048576) = false := decide_eq_false (by omega)
  have hs : k = 7 → 1 ≤ s := fun e => ((chk_kind hchk).2 e).1
  have hIt : items k s b = itemsGo k s b (b.length + 1) 0 := by unfold items; rw [if_neg (by rw [hchk]; simp), if_neg (by subst hkind; decide)]
  have HCHK := fun W => chk_of (s := s) h.hk W
  rw [hchk] at HCHK
  have HWAY := fun W => ways_calls k s (by simp [hkind]) W
  have HJ := Aside0.mk (show ∀ pre A B, J pre A → Below W.heap.size A B → J pre B from hJ)
  have HJX := Aside0.mk (show ∀ pre A B, Jx pre A → Below W.heap.size A B → Jx pre B from hJx)
  have HY := Aside0.mk hY
  have HH := Aside0.mk h
  have H0 := Aside0.mk h0
  have q0 : W.cell? ⟨gt, 0, none⟩ = some (.int .i64 k) := blk_cell h.hgt 0
  have q1 : W.cell? ⟨gt, 1, none⟩ = some (.int .i64 s) := blk_cell h.hgt 1
  have hlt := blk_lt h.hgt
  have hne : gt ≠ W.heap.size := by omega
  have HIT := Aside0.mk hIt
  have HS := Aside0.mk hs
  have HK := Aside0.mk hkind
  clear hJ hJx hY h0 hchk hIt hs h hkind
  refine callsIn_of_wp Try.func17 rfl trivial ?_ rfl
  simp only [Try.ntmps17, List.size_toArray, List.length_cons, List.length_nil, Nat.reduceAdd, Nat.reduceSub, Array.replicate_succ, Array.replicate_zero, List.push_toArray, List.append_toArray, List.nil_append, List.cons_append]
  have HB0 := Aside0.mk (below_alloc (Below.refl W.heap.size W) (.cells #[.func (.yield l) #[] #[]] 52))
  have HY0 := Aside0.mk (blk_new W (.cells #[.func (.yield l) #[] #[]] 52))
  gi_wp2_with (refine ⟨trivial, ?_⟩; gi_at_call 18; refine (callsIn_wide.2 (HCHK _)).mono ?_; clear HCHK; rintro e W1 ⟨rfl, hb⟩; have HB1 := Aside0.mk (below_step HB0.out hb); have HY1 := Aside0.mk (blk_below HY0.out hb); clear HB0 HY0 hb; have q0 : W1.cell? ⟨gt, 0, none⟩ = some (.int .i64 k) := blk_cell ((HB1.out.block _ hlt).trans HH.out.hgt) 0; have q1 : W1.cell? ⟨gt, 1, none⟩ = some (.int .i64 s) := blk_cell ((HB1.out.block _ hlt).trans HH.out.hgt) 1; have qb : W1.cell? ⟨gb, 0, none⟩ = some (.slice A b.length c) := blk_cell ((HB1.out.block _ (blk_lt HH.out.hgb)).trans HH.out.hgb) 0)
  refine ⟨trivial, ?_⟩
  refine (callsIn_wide.2 (HWAY _)).mono ?_
  rintro e W2 ⟨v, rfl, hw, hb⟩
  have HB2 := Aside0.mk (below_step HB1.out hb)
  have HW1 := Aside0.mk HB1.out.size
  have HY2 := Aside0.mk (blk_below HY1.out hb)
  clear hb HB1 HY1 q0 q1 qb HWAY
  obtain rfl : v = wayL := by
    rcases hw with ⟨h, _⟩ | ⟨_, h⟩ | ⟨h, _⟩
    · have := HK.out; omega
    · exact h
    · have := HK.out; omega
  clear hw
  unfold wayL
  gi_wp2
  obtain ⟨W0, hW0, hgw, hb⟩ := way_new W2 62 #[.func (.func 53) #[] #[], .func (.func 54) #[] #[], .func (.func 55) #[] #[]]
  obtain ⟨gw, hgwe⟩ : ∃ gw, gw = W2.heap.size := ⟨_, rfl⟩
  rw [← hW0, ← hgwe]
  rw [← hgwe] at hgw
  have HR0 := Aside0.mk (show AllR w0 W W0 A c b gb gw l #[.func (.func 53) #[] #[], .func (.func 54) #[] #[], .func (.func 55) #[] #[]] from ⟨HH.out.hb.trans ((below_step HB2.out hb).mono HH.out.hb.size), (below_step HB2.out hb).size, (((below_step HB2.out hb)).block _ (blk_lt HH.out.hgb)).trans HH.out.hgb, hgw, blk_below HY2.out hb, by rw [hgwe]; exact HB2.out.size⟩)
  have HJ0 := Aside0.mk (HJ.out _ _ _ H0.out (below_step HB2.out hb))
  have HWZ := Aside0.mk (show W.heap.size ≤ W0.heap.size from (below_step HB2.out hb).size)
  skip
  have hwz : W.heap.size ≤ gw := by rw [hgwe]; exact HB2.out.size
  have HB3 := Aside0.mk (below_step HB2.out hb)
  clear hW0 hgw hb HB2 HY2 H0 hgwe
  gi_loopw [7] (fun v7 wr => ∃ (at_ : Int) (d : Nat) (pre : List (Int × S30)), v7 = .int .i64 at_ ∧ 0 ≤ at_ ∧ at_ ≤ (b.length : Int) ∧ Aside0 ((b.length : Int) - at_ < d) ∧ Aside0 (pre ++ itemsGo k s b d at_ = items k s b) ∧ Aside0 (J pre wr) ∧ Aside0 (AllR w0 W wr A c b gb gw l #[.func (.func 53) #[] #[], .func (.func 54) #[] #[], .func (.func 55) #[] #[]]) ) (fun v7 _ => b.length - (intOf v7).toNat)
  case atStart => exact ⟨0, b.length + 1, [], rfl, by omega, by omega, ⟨by omega⟩, ⟨HIT.out.symm⟩, HJ0, HR0 ⟩
  case round =>
    clear HJ0 HR0
    obtain ⟨at_, d, pre, rfl, h0, h1, HD, HP, HJp, HR ⟩ := hrel
    have qb : wr.cell? ⟨gb, 0, none⟩ = some (.slice A b.length c) := blk_cell HR.out.rb 0
    have qy : wr.cell? ⟨W.heap.size, 0, none⟩ = some (.func (.yield l) #[] #[]) := blk_cell HR.out.ry 0
    by_cases ci : at_ < (b.length : Int)
    · have q1 : decide (at_ < (b.length : Int)) = true := decide_eq_true ci
      obtain ⟨x, hx⟩ : ∃ x, x = (FrontS k s (b.drop at_.toNat)).1 := ⟨_, rfl⟩
      obtain ⟨m, hm⟩ : ∃ m, m = (FrontS k s (b.drop at_.toNat)).2 := ⟨_, rfl⟩
      have hfr : rdBy 12 k s (b.drop at_.toNat) = some (x, m) := by
        rw [front (by omega) (drop_u8 HH.out.hu _) (by rw [List.length_drop]; omega) HS.out, hx, hm]
      obtain ⟨i0, hi0, _, hsz, _⟩ := info_parts info5
      obtain ⟨A1, hcut, hDd, hC1⟩ := print_drop_of (P := Try.prog) (Value.int .u8) 0 22 5 .i64 Try.underlying22 hi0 hsz A c b at_ h0 h1 HH.out.hc
      obtain ⟨bb, hbl⟩ : ∃ bb, bb = b.drop at_.toNat := ⟨_, rfl⟩
      rw [← hbl] at hcut hDd hfr hC1
      have HD2 := Aside0.mk (Kd.C_of_reads (h1 := fun _ => rfl) (hDd _ (Kd.reads_of_C (Kd.C_below HH.out.hC HR.out.b0))))
      have HF := Aside0.mk hfr
      have HXM := Aside0.mk (And.intro hx hm)
      have HC2 : ∀ Wz, Below wr.heap.size wr Wz → Wz.cell? ⟨gw, 2, none⟩ = some (.func (.func 55) #[] #[]) := fun Wz hWz => (blk_cell (blk_below HR.out.rw hWz) 2).trans rfl
      have HCALL : ∀ Wz, Below wr.heap.size wr Wz → Calls Try.prog 55 #[.slice A1 bb.length (c - at_.toNat)] Wz fun e w' => e = .returned (.tuple #[.agg #[.int .i64 x.f0, .int .i64 x.f1, .string x.f2], .int .i64 m]) ∧ Below Wz.heap.size Wz w' := fun Wz hWz => rdLong_calls 12 A1 _ bb x m Wz (Kd.C_below HD2.out hWz) hC1 (by have h := HF.out; unfold rdBy at h; rwa [if_pos HK.out] at h)
      have HZ := Aside0.mk (blk_new wr (Obj.cells #[Value.int IntKind.i64 0, Value.int IntKind.i64 0, Value.string { data := #[] }] 30))
      have hBr : Below wr.heap.size wr wr := Below.refl _ _
      have hBQ : ∀ Wz, Below wr.heap.size wr Wz → Wz.cell? ⟨gb, 0, none⟩ = some (.slice A b.length c) := fun Wz hWz => (blk_cell (blk_below HR.out.rb hWz) 0).trans rfl
      clear hfr hbl hDd hx hm
      gi_wp2
      refine wpIn_wide.2 ?_
      go_region_held3 (fun w' => w'.cell? ⟨gw, 2, none⟩ = some (.func (.func 55) #[] #[]) ∧ w'.cell? ⟨gb, 0, none⟩ = some (.slice A b.length c)) (first | (refine ⟨HC2 _ ?_, (hBQ _ ?_)⟩ <;> repeat (first | exact hBr | exact hBr1 | apply below_drew1 | apply below_alloc | (refine below_set ?_ (by first | exact Nat.le_refl _ | exact hBr.size | exact hBr1.size)))))
        (first | (go_at_call 55; refine (HCALL _ (by repeat (first | exact hBr | apply below_drew1 | apply below_alloc))).mono ?_; rintro e Wy ⟨rfl, hb⟩; have hBr1 : Below wr.heap.size wr Wy := below_step (show Below wr.heap.size wr _ by repeat (first | exact hBr | apply below_drew1 | apply below_alloc)) hb; have hcl := fun (p : Addr) (hp : p.block < _) => hb.cell (p := p) hp; have hfr := fun (p : Addr) (hp : p.block < _) => hb.frozen (p := p) hp))
      all_goals refine exit_named fun Wx hWx => ?_
      all_goals (first | (have HGD := Aside0.mk (show Wx.heap[Wy.heap.size]? = some (.cells #[.int .i64 x.f0, .int .i64 x.f1, .string x.f2] 30 (0, 0)) from (by rw [hWx]; exact blk_new _ _)); have HBX := Aside0.mk (show Below wr.heap.size wr Wx from (by rw [hWx]; exact below_alloc hBr1 _))) | (have HGD := Aside0.mk (show Wx.heap[wr.heap.size]? = some (.cells #[.int .i64 x.f0, .int .i64 x.f1, .string x.f2] 30 (0, 0)) from (by rw [hWx]; exact blk_set (blk_set (blk_set (blk_below (by repeat (first | exact HZ.out | apply blk_drew)) hb) 0 _) 1 _) 2 _)); have HBX := Aside0.mk (show Below wr.heap.size wr Wx from (by rw [hWx]; exact below_set (below_set (below_set hBr1 (Nat.le_refl _)) (Nat.le_refl _)) (Nat.le_refl _)))))
      all_goals
        clear hWx hb hBr hBr1 HC2 HCALL HZ hBQ hcl hfr qb qy
        have y0 := (blk_cell HGD.out 0).trans rfl
        have y1 := (blk_cell HGD.out 1).trans rfl
        have y2 := (blk_cell HGD.out 2).trans rfl
        have HRx := Aside0.mk (HR.out.step HBX.out)
        have HJx2 := Aside0.mk (HJ.out _ _ _ HJp.out (HBX.out.mono HR.out.sz))
        have qy : Wx.cell? ⟨W.heap.size, 0, none⟩ = some (.func (.yield l) #[] #[]) := blk_cell HRx.out.ry 0
        have qb : Wx.cell? ⟨gb, 0, none⟩ = some (.slice A b.length c) := blk_cell HRx.out.rb 0
        by_cases cm : m = 0
        · have q3 : (m == 0) = true := by simp [cm]
          have hP := HP.out
          rw [itemsGo_none (by rw [← HXM.out.2]; exact cm), List.append_nil] at hP
          clear HP cm
          have HP := Aside0.mk hP
          clear hP
          gi_wp2
          refine ⟨fun _ h => (by cases h), ?_⟩
          gi_wp2
          refine bodyPost_ret (results_none rfl _ _ _) rfl ?_
          have hj := HJx2.out
          rw [HP.out] at hj
          exact ⟨⟨_, rfl⟩, .inl ⟨_, rfl, hj⟩⟩
        · have q3 : (m == 0) = false := beq_eq_false_iff_ne.2 cm
          obtain ⟨z0, z1⟩ := FrontS_size (k := k) (s := s) (drop_u8 HH.out.hu at_.toNat) HS.out
          rw [← HXM.out.2, List.length_drop] at z1
          rw [← HXM.out.2] at z0
          have hwr : IntKind.i64.wrap (at_ + m) = at_ + m := IntWalk.i64_in _ (by omega)
          obtain ⟨d, rfl⟩ : ∃ j, d = j + 1 := ⟨d - 1, by have := HD.out; omega⟩
          have hP := HP.out
          rw [itemsGo_step (by rw [← HXM.out.2]; exact cm), ← HXM.out.1, ← HXM.out.2] at hP
          have HP2 := Aside0.mk hP
          have HM := Aside0.mk (show at_ + m ≤ b.length ∧ 0 < m ∧ 0 ≤ at_ ∧ at_ < b.length by omega)
          obtain ⟨fn, tmps, assign, body, hy, hR2⟩ := HY.out pre (at_, x) Wx HJx2.out ⟨itemsGo k s b d (at_ + m), by rw [← hP]; simp⟩ (by rw [← hP]; simp)
          dsimp only [encP] at hy
          clear hP HP cm z0 z1
          gi_wp2
          refine hR2.mono ?_
          rintro e W3 (⟨rfl, hJ3, hk3⟩ | ⟨rfl, hJx3, _⟩)
          · have HR3 := Aside0.mk (HRx.out.round HH.out.hXn (fun i hi => HH.out.hXW i hi) HH.out.hXb hk3)
            skip
            have HJ3 := Aside0.mk hJ3
            have qb : W3.cell? ⟨gb, 0, none⟩ = some (.slice A b.length c) := blk_cell HR3.out.rb 0
            clear hJ3 hk3 hy hR2
            gi_wp2
            go_roundw
            case rel => exact ⟨at_ + m, d, pre ++ [(at_, x)], rfl, by have := HM.out; omega, HM.out.1, ⟨by have := HD.out; have := HM.out.2.1; omega⟩, ⟨by rw [← HP2.out]; simp⟩, HJ3, HR3 ⟩
            case measure => have := HM.out; simp [intOf]; omega
          · have HJ3 := Aside0.mk hJx3
            clear hJx3 hy hR2
            gi_wp2
            refine bodyPost_ret (results_none rfl _ _ _) rfl ?_
            exact ⟨⟨_, rfl⟩, .inr ⟨_, ⟨itemsGo k s b d (at_ + m), by rw [← HP2.out]; simp⟩, HJ3.out⟩⟩
    · have q1 : decide (at_ < (b.length : Int)) = false := decide_eq_false ci
      obtain rfl : at_ = (b.length : Int) := by omega
      have hP := HP.out
      rw [itemsGo_len HS.out, List.append_nil] at hP
      clear HP
      have HP := Aside0.mk hP
      clear hP
      gi_wp2
      go_end0
      have hj := HJp.out
      rw [HP.out] at hj
      exact ⟨⟨_, rfl⟩, .inl hj⟩
end Go.Proofs.Ytcklkngljapecaa.X
end

section
namespace Go.Proofs.Ytcklkngljapecaa.X
open Go.RowKit Go.Proofs.YtcklkngljapecaaW.PrintWords Go.Proofs.YtcklkngljapecaaW.PrintLast Go.Proofs.YtcklkngljapecaaW.PrintMore Go.Shelf Go.Proofs.Ytcklkngljapecaa.L10
attribute [local go_sem] Oper.semAt_some
set_option linter.unusedVariables false
set_option linter.unusedSimpArgs false
set_option maxRecDepth 100000 in
set_option maxHeartbeats 16000000 in
theorem all1_F (n : Nat) (hn : 1 ≤ n) {w0 W : World} {A : Option Addr} {c : Nat} {b : List Int} {k s : Int} {gb gt : Nat} {X : Nat → Prop} (h : AllH w0 W A c b k s gb gt X) (hchk : chkB k s = true) (hkind : k = 7) : AllLays n w0 W A c b k s gb gt X := by
  intro l J Jx hJ hJx hY h0
  have hu25 := Try.underlying25
  have hu30 := Try.underlying30
  have hu62 := Try.underlying62
  have d0 : (k == 0) = false := beq_eq_false_iff_ne.2 (by subst hkind; decide)
  have hlen := h.hlen
  have d2 : decide ((b.length : Int) > 1048576) = false := decide_eq_false (by omega)
  have hs : k = 7 → 1 ≤ s := fun e => ((chk_kind hchk).2 e).1
  have hIt : items k s b = itemsGo k s b (b.length + 1) 0 := by unfold items; rw [if_neg (by rw [hchk]; simp), if_neg (by subst hkind; decide)]
  have HCHK := fun W => chk_of (s := s) h.hk W
  rw [hchk] at HCHK
  have HWAY := fun W => ways_calls k s (by simp [hkind]) W
  have HJ := Aside0.mk (show ∀ pre A B, J pre A → Below W.heap.size A B → J pre B from hJ)
  have HJX := Aside0.mk (show ∀ pre A B, Jx pre A → Below W.heap.size A B → Jx pre B from hJx)
  have HY := Aside0.mk hY
  have HH := Aside0.mk h
  have H0 := Aside0.mk h0
  have q0 : W.cell? ⟨gt, 0, none⟩ = some (.int .i64 k) := blk_cell h.hgt 0
  have q1 : W.cell? ⟨gt, 1, none⟩ = some (.int .i64 s) := blk_cell h.hgt 1
  have hlt := blk_lt h.hgt
  have hne : gt ≠ W.heap.size := by omega
  have HIT := Aside0.mk hIt
  have HS := Aside0.mk hs
  have HK := Aside0.mk hkind
  clear hJ hJx hY h0 hchk hIt hs h hkind
  refine callsIn_of_wp Try.func17 rfl trivial ?_ rfl
  simp only [Try.ntmps17, List.size_toArray, List.length_cons, List.length_nil, Nat.reduceAdd, Nat.reduceSub, Array.replicate_succ, Array.replicate_zero, List.push_toArray, List.append_toArray, List.nil_append, List.cons_append]
  have HB0 := Aside0.mk (below_alloc (Below.refl W.heap.size W) (.cells #[.func (.yield l) #[] #[]] 52))
  have HY0 := Aside0.mk (blk_new W (.cells #[.func (.yield l) #[] #[]] 52))
  gi_wp2_with (refine ⟨trivial, ?_⟩; gi_at_call 18; refine (callsIn_wide.2 (HCHK _)).mono ?_; clear HCHK; rintro e W1 ⟨rfl, hb⟩; have HB1 := Aside0.mk (below_step HB0.out hb); have HY1 := Aside0.mk (blk_below HY0.out hb); clear HB0 HY0 hb; have q0 : W1.cell? ⟨gt, 0, none⟩ = some (.int .i64 k) := blk_cell ((HB1.out.block _ hlt).trans HH.out.hgt) 0; have q1 : W1.cell? ⟨gt, 1, none⟩ = some (.int .i64 s) := blk_cell ((HB1.out.block _ hlt).trans HH.out.hgt) 1; have qb : W1.cell? ⟨gb, 0, none⟩ = some (.slice A b.length c) := blk_cell ((HB1.out.block _ (blk_lt HH.out.hgb)).trans HH.out.hgb) 0)
  refine ⟨trivial, ?_⟩
  refine (callsIn_wide.2 (HWAY _)).mono ?_
  rintro e W2 ⟨v, rfl, hw, hb⟩
  have HB2 := Aside0.mk (below_step HB1.out hb)
  have HW1 := Aside0.mk HB1.out.size
  have HY2 := Aside0.mk (blk_below HY1.out hb)
  clear hb HB1 HY1 q0 q1 qb HWAY
  obtain ⟨g1, rfl, G1⟩ : ∃ g1, v = wayF g1 ∧ Aside0 (W2.heap[g1]? = some (.cells #[.int .i64 s] 3 (0, 0)) ∧ W1.heap.size ≤ g1) := by
    rcases hw with ⟨h, _⟩ | ⟨h, _⟩ | ⟨_, g1, h1, z1, h4⟩
    · have := HK.out; omega
    · have := HK.out; omega
    · exact ⟨g1, h1, ⟨h4, by omega⟩⟩
  clear hw
  unfold wayF ptr
  gi_wp2
  obtain ⟨W0, hW0, hgw, hb⟩ := way_new W2 62 #[.func (.func 57) #[] #[.pointer (some ⟨g1, 0, none⟩)], .func (.func 58) #[] #[], .func (.func 59) #[] #[.pointer (some ⟨g1, 0, none⟩)]]
  obtain ⟨gw, hgwe⟩ : ∃ gw, gw = W2.heap.size := ⟨_, rfl⟩
  rw [← hW0, ← hgwe]
  rw [← hgwe] at hgw
  have HR0 := Aside0.mk (show AllR w0 W W0 A c b gb gw l #[.func (.func 57) #[] #[.pointer (some ⟨g1, 0, none⟩)], .func (.func 58) #[] #[], .func (.func 59) #[] #[.pointer (some ⟨g1, 0, none⟩)]] from ⟨HH.out.hb.trans ((below_step HB2.out hb).mono HH.out.hb.size), (below_step HB2.out hb).size, (((below_step HB2.out hb)).block _ (blk_lt HH.out.hgb)).trans HH.out.hgb, hgw, blk_below HY2.out hb, by rw [hgwe]; exact HB2.out.size⟩)
  have HJ0 := Aside0.mk (HJ.out _ _ _ H0.out (below_step HB2.out hb))
  have HWZ := Aside0.mk (show W.heap.size ≤ W0.heap.size from (below_step HB2.out hb).size)
  have K1 := Aside0.mk (show _ ∧ W.heap.size ≤ g1 from ⟨blk_below G1.out.1 hb, by have := G1.out.2; have := HW1.out; omega⟩)
  clear G1
  have hwz : W.heap.size ≤ gw := by rw [hgwe]; exact HB2.out.size
  have HB3 := Aside0.mk (below_step HB2.out hb)
  clear hW0 hgw hb HB2 HY2 H0 hgwe
  gi_loopw [7] (fun v7 wr => ∃ (at_ : Int) (d : Nat) (pre : List (Int × S30)), v7 = .int .i64 at_ ∧ 0 ≤ at_ ∧ at_ ≤ (b.length : Int) ∧ Aside0 ((b.length : Int) - at_ < d) ∧ Aside0 (pre ++ itemsGo k s b d at_ = items k s b) ∧ Aside0 (J pre wr) ∧ Aside0 (AllR w0 W wr A c b gb gw l #[.func (.func 57) #[] #[.pointer (some ⟨g1, 0, none⟩)], .func (.func 58) #[] #[], .func (.func 59) #[] #[.pointer (some ⟨g1, 0, none⟩)]]) ∧ Aside0 (wr.heap[g1]? = some (.cells #[.int .i64 s] 3 (0, 0)) ∧ W.heap.size ≤ g1)) (fun v7 _ => b.length - (intOf v7).toNat)
  case atStart => exact ⟨0, b.length + 1, [], rfl, by omega, by omega, ⟨by omega⟩, ⟨HIT.out.symm⟩, HJ0, HR0 , K1⟩
  case round =>
    clear HJ0 HR0 K1
    obtain ⟨at_, d, pre, rfl, h0, h1, HD, HP, HJp, HR , K1⟩ := hrel
    have qb : wr.cell? ⟨gb, 0, none⟩ = some (.slice A b.length c) := blk_cell HR.out.rb 0
    have qy : wr.cell? ⟨W.heap.size, 0, none⟩ = some (.func (.yield l) #[] #[]) := blk_cell HR.out.ry 0
    by_cases ci : at_ < (b.length : Int)
    · have q1 : decide (at_ < (b.length : Int)) = true := decide_eq_true ci
      obtain ⟨x, hx⟩ : ∃ x, x = (FrontS k s (b.drop at_.toNat)).1 := ⟨_, rfl⟩
      obtain ⟨m, hm⟩ : ∃ m, m = (FrontS k s (b.drop at_.toNat)).2 := ⟨_, rfl⟩
      have hfr : rdBy 12 k s (b.drop at_.toNat) = some (x, m) := by
        rw [front (by omega) (drop_u8 HH.out.hu _) (by rw [List.length_drop]; omega) HS.out, hx, hm]
      obtain ⟨i0, hi0, _, hsz, _⟩ := info_parts info5
      obtain ⟨A1, hcut, hDd, hC1⟩ := print_drop_of (P := Try.prog) (Value.int .u8) 0 22 5 .i64 Try.underlying22 hi0 hsz A c b at_ h0 h1 HH.out.hc
      obtain ⟨bb, hbl⟩ : ∃ bb, bb = b.drop at_.toNat := ⟨_, rfl⟩
      rw [← hbl] at hcut hDd hfr hC1
      have HD2 := Aside0.mk (Kd.C_of_reads (h1 := fun _ => rfl) (hDd _ (Kd.reads_of_C (Kd.C_below HH.out.hC HR.out.b0))))
      have HF := Aside0.mk hfr
      have HXM := Aside0.mk (And.intro hx hm)
      have HC2 : ∀ Wz, Below wr.heap.size wr Wz → Wz.cell? ⟨gw, 2, none⟩ = some (.func (.func 59) #[] #[.pointer (some ⟨g1, 0, none⟩)]) := fun Wz hWz => (blk_cell (blk_below HR.out.rw hWz) 2).trans rfl
      have HCALL : ∀ Wz, Below wr.heap.size wr Wz → Calls Try.prog 59 #[.slice A1 bb.length (c - at_.toNat), .pointer (some ⟨g1, 0, none⟩)] Wz fun e w' => e = .returned (.tuple #[.agg #[.int .i64 x.f0, .int .i64 x.f1, .string x.f2], .int .i64 m]) ∧ Below Wz.heap.size Wz w' := fun Wz hWz => rdFixed_calls A1 _ bb s g1 x m Wz (Kd.C_below HD2.out hWz) hC1 (blk_below K1.out.1 hWz) (by have h := HF.out; unfold rdBy at h; rwa [if_neg (by have := HK.out; omega), if_pos HK.out] at h)
      have HZ := Aside0.mk (blk_new wr (Obj.cells #[Value.int IntKind.i64 0, Value.int IntKind.i64 0, Value.string { data := #[] }] 30))
      have hBr : Below wr.heap.size wr wr := Below.refl _ _
      have hBQ : ∀ Wz, Below wr.heap.size wr Wz → Wz.cell? ⟨gb, 0, none⟩ = some (.slice A b.length c) := fun Wz hWz => (blk_cell (blk_below HR.out.rb hWz) 0).trans rfl
      clear hfr hbl hDd hx hm
      gi_wp2
      refine wpIn_wide.2 ?_
      go_region_held3 (fun w' => w'.cell? ⟨gw, 2, none⟩ = some (.func (.func 59) #[] #[.pointer (some ⟨g1, 0, none⟩)]) ∧ w'.cell? ⟨gb, 0, none⟩ = some (.slice A b.length c)) (first | (refine ⟨HC2 _ ?_, (hBQ _ ?_)⟩ <;> repeat (first | exact hBr | exact hBr1 | apply below_drew1 | apply below_alloc | (refine below_set ?_ (by first | exact Nat.le_refl _ | exact hBr.size | exact hBr1.size)))))
        (first | (go_at_call 59; refine (HCALL _ (by repeat (first | exact hBr | apply below_drew1 | apply below_alloc))).mono ?_; rintro e Wy ⟨rfl, hb⟩; have hBr1 : Below wr.heap.size wr Wy := below_step (show Below wr.heap.size wr _ by repeat (first | exact hBr | apply below_drew1 | apply below_alloc)) hb; have hcl := fun (p : Addr) (hp : p.block < _) => hb.cell (p := p) hp; have hfr := fun (p : Addr) (hp : p.block < _) => hb.frozen (p := p) hp))
      all_goals refine exit_named fun Wx hWx => ?_
      all_goals (first | (have HGD := Aside0.mk (show Wx.heap[Wy.heap.size]? = some (.cells #[.int .i64 x.f0, .int .i64 x.f1, .string x.f2] 30 (0, 0)) from (by rw [hWx]; exact blk_new _ _)); have HBX := Aside0.mk (show Below wr.heap.size wr Wx from (by rw [hWx]; exact below_alloc hBr1 _))) | (have HGD := Aside0.mk (show Wx.heap[wr.heap.size]? = some (.cells #[.int .i64 x.f0, .int .i64 x.f1, .string x.f2] 30 (0, 0)) from (by rw [hWx]; exact blk_set (blk_set (blk_set (blk_below (by repeat (first | exact HZ.out | apply blk_drew)) hb) 0 _) 1 _) 2 _)); have HBX := Aside0.mk (show Below wr.heap.size wr Wx from (by rw [hWx]; exact below_set (below_set (below_set hBr1 (Nat.le_refl _)) (Nat.le_refl _)) (Nat.le_refl _)))))
      all_goals
        clear hWx hb hBr hBr1 HC2 HCALL HZ hBQ hcl hfr qb qy
        have y0 := (blk_cell HGD.out 0).trans rfl
        have y1 := (blk_cell HGD.out 1).trans rfl
        have y2 := (blk_cell HGD.out 2).trans rfl
        have HRx := Aside0.mk (HR.out.step HBX.out)
        have HJx2 := Aside0.mk (HJ.out _ _ _ HJp.out (HBX.out.mono HR.out.sz))
        have qy : Wx.cell? ⟨W.heap.size, 0, none⟩ = some (.func (.yield l) #[] #[]) := blk_cell HRx.out.ry 0
        have qb : Wx.cell? ⟨gb, 0, none⟩ = some (.slice A b.length c) := blk_cell HRx.out.rb 0
        by_cases cm : m = 0
        · have q3 : (m == 0) = true := by simp [cm]
          have hP := HP.out
          rw [itemsGo_none (by rw [← HXM.out.2]; exact cm), List.append_nil] at hP
          clear HP cm
          have HP := Aside0.mk hP
          clear hP
          gi_wp2
          refine ⟨fun _ h => (by cases h), ?_⟩
          gi_wp2
          refine bodyPost_ret (results_none rfl _ _ _) rfl ?_
          have hj := HJx2.out
          rw [HP.out] at hj
          exact ⟨⟨_, rfl⟩, .inl ⟨_, rfl, hj⟩⟩
        · have q3 : (m == 0) = false := beq_eq_false_iff_ne.2 cm
          obtain ⟨z0, z1⟩ := FrontS_size (k := k) (s := s) (drop_u8 HH.out.hu at_.toNat) HS.out
          rw [← HXM.out.2, List.length_drop] at z1
          rw [← HXM.out.2] at z0
          have hwr : IntKind.i64.wrap (at_ + m) = at_ + m := IntWalk.i64_in _ (by omega)
          obtain ⟨d, rfl⟩ : ∃ j, d = j + 1 := ⟨d - 1, by have := HD.out; omega⟩
          have hP := HP.out
          rw [itemsGo_step (by rw [← HXM.out.2]; exact cm), ← HXM.out.1, ← HXM.out.2] at hP
          have HP2 := Aside0.mk hP
          have HM := Aside0.mk (show at_ + m ≤ b.length ∧ 0 < m ∧ 0 ≤ at_ ∧ at_ < b.length by omega)
          obtain ⟨fn, tmps, assign, body, hy, hR2⟩ := HY.out pre (at_, x) Wx HJx2.out ⟨itemsGo k s b d (at_ + m), by rw [← hP]; simp⟩ (by rw [← hP]; simp)
          dsimp only [encP] at hy
          clear hP HP cm z0 z1
          gi_wp2
          refine hR2.mono ?_
          rintro e W3 (⟨rfl, hJ3, hk3⟩ | ⟨rfl, hJx3, _⟩)
          · have HR3 := Aside0.mk (HRx.out.round HH.out.hXn (fun i hi => HH.out.hXW i hi) HH.out.hXb hk3)
            have K1 := Aside0.mk (And.intro (hk3.at (blk_below K1.out.1 HBX.out) (HH.out.hXW _ K1.out.2)) K1.out.2)
            have HJ3 := Aside0.mk hJ3
            have qb : W3.cell? ⟨gb, 0, none⟩ = some (.slice A b.length c) := blk_cell HR3.out.rb 0
            clear hJ3 hk3 hy hR2
            gi_wp2
            go_roundw
            case rel => exact ⟨at_ + m, d, pre ++ [(at_, x)], rfl, by have := HM.out; omega, HM.out.1, ⟨by have := HD.out; have := HM.out.2.1; omega⟩, ⟨by rw [← HP2.out]; simp⟩, HJ3, HR3 , K1⟩
            case measure => have := HM.out; simp [intOf]; omega
          · have HJ3 := Aside0.mk hJx3
            clear hJx3 hy hR2
            gi_wp2
            refine bodyPost_ret (results_none rfl _ _ _) rfl ?_
            exact ⟨⟨_, rfl⟩, .inr ⟨_, ⟨itemsGo k s b d (at_ + m), by rw [← HP2.out]; simp⟩, HJ3.out⟩⟩
    · have q1 : decide (at_ < (b.length : Int)) = false := decide_eq_false ci
      obtain rfl : at_ = (b.length : Int) := by omega
      have hP := HP.out
      rw [itemsGo_len HS.out, List.append_nil] at hP
      clear HP
      have HP := Aside0.mk hP
      clear hP
      gi_wp2
      go_end0
      have hj := HJp.out
      rw [HP.out] at hj
      exact ⟨⟨_, rfl⟩, .inl hj⟩
end Go.Proofs.Ytcklkngljapecaa.X
end

section
namespace Go.Proofs.Ytcklkngljapecaa.X
open Go.RowKit Go.Proofs.YtcklkngljapecaaW.PrintWords Go.Proofs.YtcklkngljapecaaW.PrintLast Go.Proofs.YtcklkngljapecaaW.PrintMore Go.Shelf Go.Proofs.Ytcklkngljapecaa.L10 Go.Proofs.Ytcklkngljapecaa.Bx Go.Proofs.Ytcklkngljapecaa.Nx Go.Proofs.Ytcklkngljapecaa.Px Go.Proofs.Ytcklkngljapecaa.L1
attribute [local go_sem] Oper.semAt_some
set_option linter.unusedVariables false
set_option linter.unusedSimpArgs false
theorem bitItems_succ (b : List Int) (m : Nat) : bitItems b (m + 1) = bitItems b m ++ [((m : Int), truth (bitv (b.getD (m / 8) 0) (m % 8)))] := by simp [bitItems, List.range_succ]
theorem bitItems_length (b : List Int) (m : Nat) : (bitItems b m).length = m := by simp [bitItems]
theorem bitItems_le (b : List Int) {m m' : Nat} (h : m ≤ m') : ∃ r, bitItems b m ++ r = bitItems b m' := by
  obtain ⟨j, rfl⟩ : ∃ j, m' = m + j := ⟨m' - m, by omega⟩
  exact ⟨(List.range j).map fun (i : Nat) => (((m + i : Nat) : Int), truth (bitv (b.getD ((m + i) / 8) 0) ((m + i) % 8))), by simp [bitItems, List.range_add]⟩
structure AllB (w0 W wr : World) (gi l m : Nat) : Prop where
  b0 : Below w0.heap.size w0 wr
  sz : W.heap.size ≤ wr.heap.size
  ri : wr.heap[gi]? = some (.cells #[.int .i64 (m : Int)] 3 (0, 0))
  ry : wr.heap[W.heap.size]? = some (.cells #[.func (.yield l) #[] #[]] 52 (0, 0))
theorem AllB.turns {w0 W wr wx : World} {gi l m B : Nat} (h : AllB w0 W wr gi l m) (hB : W.heap.size < B) (hi : gi < B) (h0 : w0.heap.size ≤ W.heap.size) (ht : Turns B wr wx) : AllB w0 W wx gi l m :=
  ⟨h.b0.trans (ht.below (by omega) (by have := h.sz; omega)), by have := (ht.below (n := W.heap.size) (by omega) h.sz).size; have := h.sz; omega, ht.at h.ri (.inl hi), ht.at h.ry (.inl hB)⟩
theorem AllB.step {w0 W wr wx : World} {gi l m : Nat} (h : AllB w0 W wr gi l m) (hb : Below wr.heap.size wr wx) : AllB w0 W wx gi l m :=
  ⟨h.b0.trans (hb.mono h.b0.size), Nat.le_trans h.sz hb.size, blk_below h.ri hb, blk_below h.ry hb⟩
theorem AllB.round {w0 W wr wx : World} {gi l m : Nat} {X : Nat → Prop} (h : AllB w0 W wr gi l m) (hgi : W.heap.size ≤ gi) (hX1 : ∀ i, X i → w0.heap.size ≤ i) (hX2 : ∀ i, W.heap.size ≤ i → ¬ X i) (hk : KeepsBut X wr wx) : AllB w0 W wx gi l m :=
  ⟨h.b0.trans (hk.below h.b0.size hX1), Nat.le_trans h.sz hk.size, hk.at h.ri (hX2 _ hgi), hk.at h.ry (hX2 _ (Nat.le_refl _))⟩
theorem turns_below {B n : Nat} {A C : World} (h : Turns B A C) (hn : n ≤ B) : Below n A C := by
  refine h.below hn ?_
  obtain ⟨k, o, o', h1, h2, hk, _⟩ := h
  have := (Array.getElem?_eq_some_iff.1 hk).1
  omega
set_option maxRecDepth 100000 in
set_option maxHeartbeats 8000000 in
theorem all1_B (n : Nat) (hn : 4 ≤ n) {w0 W : World} {A : Option Addr} {c : Nat} {b : List Int} {s : Int} {gb gt : Nat} {X : Nat → Prop} (h : AllH w0 W A c b 0 s gb gt X) (hchk : chkB 0 s = true) : AllLays n w0 W A c b 0 s gb gt X := by
  intro l J Jx hJ hJx hY h0
  have hu25 := Try.underlying25
  have hu30 := Try.underlying30
  have hlen := h.hlen
  have d2 : decide ((b.length : Int) > 1048576) = false := decide_eq_false (by omega)
  have hIt : items 0 s b = bitItems b (8 * b.length) := by unfold items; rw [if_neg (by rw [hchk]; simp), if_pos rfl]
  have HCHK := fun W => chk_of (k := 0) (s := s) h.hk W
  rw [hchk] at HCHK
  have HJ := Aside0.mk (show ∀ pre A B, J pre A → Below W.heap.size A B → J pre B from hJ)
  have HJX := Aside0.mk (show ∀ pre A B, Jx pre A → Below W.heap.size A B → Jx pre B from hJx)
  have HY := Aside0.mk hY
  have HH := Aside0.mk h
  have H0 := Aside0.mk h0
  have q0 : W.cell? ⟨gt, 0, none⟩ = some (.int .i64 0) := blk_cell h.hgt 0
  have q1 : W.cell? ⟨gt, 1, none⟩ = some (.int .i64 s) := blk_cell h.hgt 1
  have hlt := blk_lt h.hgt
  have hne : gt ≠ W.heap.size := by omega
  have HIT := Aside0.mk hIt
  have HN := Aside0.mk hn
  have hn1 : 1 ≤ n := by omega
  clear hJ hJx hY h0 hchk hIt h hn
  refine callsIn_of_wp_marks Try.func17 rfl trivial ?_ rfl
  simp only [Try.ntmps17, List.size_toArray, List.length_cons, List.length_nil, Nat.reduceAdd, Nat.reduceSub, Array.replicate_succ, Array.replicate_zero, List.push_toArray, List.append_toArray, List.nil_append, List.cons_append]
  have HB0 := Aside0.mk (below_alloc (Below.refl W.heap.size W) (.cells #[.func (.yield l) #[] #[]] 52))
  have HY0 := Aside0.mk (blk_new W (.cells #[.func (.yield l) #[] #[]] 52))
  gi_wp2_with (first | (refine ⟨trivial, ?_⟩; gi_at_call 18; refine (callsIn_wide.2 (HCHK _)).mono ?_; clear HCHK; rintro e W1 ⟨rfl, hb⟩; have HB1 := Aside0.mk (below_step HB0.out hb); have HY1 := Aside0.mk (blk_below HY0.out hb); clear HB0 HY0 hb; have q0 : W1.cell? ⟨gt, 0, none⟩ = some (.int .i64 0) := blk_cell ((HB1.out.block _ hlt).trans HH.out.hgt) 0; have q1 : W1.cell? ⟨gt, 1, none⟩ = some (.int .i64 s) := blk_cell ((HB1.out.block _ hlt).trans HH.out.hgt) 1; have qb : W1.cell? ⟨gb, 0, none⟩ = some (.slice A b.length c) := blk_cell ((HB1.out.block _ (blk_lt HH.out.hgb)).trans HH.out.hgb) 0; have qb2 := fun o => (World.cell?_alloc_lt W1 o _ (World.block_lt_of_cell? W1 _ qb)).trans qb; have hnb : gb ≠ W1.heap.size := Nat.ne_of_lt (Nat.lt_of_lt_of_le (blk_lt HH.out.hgb) HB1.out.size)) | (refine ⟨trivial, ?_⟩; gi_at_call 19; refine (callsIn_wide.2 (bits_in A c b _)).mono ?_; rintro e w' ⟨rfl, rfl⟩))
  refine lays_named fun W3 hW3 => ?_
  obtain ⟨gi, hgi⟩ : ∃ gi, gi = W1.heap.size := ⟨_, rfl⟩
  rw [← hgi]
  have hsz3 : W3.heap.size = gi + 2 := by rw [hW3, hgi]; simp only [World.size_alloc]
  have hWi : W.heap.size < gi := by rw [hgi]; exact blk_lt HY1.out
  have hBW : Below W.heap.size W W3 := by rw [hW3]; exact below_alloc (below_alloc HB1.out _) _
  have hi3 : W3.heap[gi]? = some (.cells #[.int .i64 0] 3 (0, 0)) := by rw [hW3, hgi]; exact blk_alloc (blk_new _ _) _
  have hb3 : W3.heap[gi + 1]? = some (.cells #[.slice A b.length c] 22 (0, 0)) := by
    rw [hW3, hgi]
    have e : W1.heap.size + 1 = (W1.alloc (.cells #[.int .i64 0] 3)).heap.size := by simp only [World.size_alloc]
    rw [e]; exact blk_new _ _
  have hy3 : W3.heap[W.heap.size]? = some (.cells #[.func (.yield l) #[] #[]] 52 (0, 0)) := by rw [hW3]; exact blk_alloc (blk_alloc HY1.out _) _
  have hB3 : Below w0.heap.size w0 W3 := HH.out.hb.trans (hBW.mono HH.out.hb.size)
  have H3 := Aside0.mk (show J [] W3 from HJ.out _ _ _ H0.out hBW)
  have HA3 := Aside0.mk (show AllB w0 W W3 gi l 0 from ⟨hB3, hBW.size, hi3, hy3⟩)
  have HWi := Aside0.mk hWi
  have HSZ := Aside0.mk hsz3
  have HG := Aside0.mk (show w0.heap.size ≤ W.heap.size from HH.out.hb.size)
  have hcb := Aside0.mk (blk_cell hb3 0)
  have HB3 := Aside0.mk hB3
  clear hW3 hi3 hb3 hy3 hB3 hBW qb qb2 hnb q0 q1 HB1 HY1 H0 hlt hne hgi
  refine wpIn_rangeFunc_lays1 (Ab := fun A B => A = B) rfl (by have := HN.out; omega) (gf := 31) (lb := #[.pointer (some ⟨gi + 1, 0, none⟩)]) rfl trivial (enters_of Try.func31 (by kernel_rfl) rfl)
    (fun o1 o2 => bits_lays Fence.wide (n - 1) trivial rfl (by have := HN.out; omega) (gi + 1) c A b w0 W3 _ HH.out.hC (by omega) HB3.out (by have := HSZ.out; omega) hcb.out o1 o2)
    (by rintro A B rfl; exact KeepsTwo.refl _ _) (fun _ => Below.refl _ _) (fun h k => h.trans k) (fun A B h => turns_below h (by have := HSZ.out; have := HG.out; have := HWi.out; omega)) (fun _ => rfl)
    (fun ys W' => J (bitItems b ys.length) W' ∧ AllB w0 W W' gi l ys.length) (fun code ys W' => code = .ret ∧ Jx (bitItems b ys.length) W') (by rintro s A B h rfl; exact h) (by rintro c s A B h rfl; exact h)
    (fun s A B h ht => ⟨HJ.out _ _ _ h.1 (turns_below ht (by have := HSZ.out; have := HWi.out; omega)), h.2.turns (by have := HSZ.out; have := HWi.out; omega) (by have := HSZ.out; omega) HG.out ht⟩)
    (fun c s A B h ht => ⟨h.1, HJX.out _ _ _ h.2 (turns_below ht (by have := HSZ.out; have := HWi.out; omega))⟩)
    (fun _ _ _ _ h => h) (fun o1 o2 => ⟨HJ.out _ _ _ H3.out (below_alloc (below_alloc (Below.refl _ _) _) _ |>.mono (by have := HSZ.out; have := HWi.out; omega)), HA3.out.step (below_alloc (below_alloc (Below.refl _ _) _) _)⟩)
    ?a1 ?assign ?body ?done ?stop
  case assign =>
    intro l1 x Wa K hK
    gi_wp2
    exact hK
  case body =>
    rintro l1 ys x wr ⟨hj, ha⟩ hg hl
    have HJr := Aside0.mk hj
    have HAr := Aside0.mk ha
    have HX := Aside0.mk hg
    have HL := Aside0.mk hl
    have hro : (Fence.wide.inRound l1).round = some l1 := rfl
    have hmix : Try.prog.follows .mixedOrders = true := by kernel_rfl
    have qi : wr.cell? ⟨gi, 0, none⟩ = some (.int .i64 ys.length) := blk_cell ha.ri 0
    have qy : wr.cell? ⟨W.heap.size, 0, none⟩ = some (.func (.yield l) #[] #[]) := blk_cell ha.ry 0
    clear hj ha hg hl
    gi_wp2
    have hxe : x = bitv (b.getD (ys.length / 8) 0) (ys.length % 8) := HX.out
    have hx01 : x = 0 ∨ x = 1 := by
      rw [hxe, bitv_eq (getD_u8 HH.out.hu _)]
      omega
    have hDB : datum_Bool.f (x == 1) = some (0, x, ⟨#[]⟩) := by rcases hx01 with rfl | rfl <;> rfl
    have HYB : ∀ Wy, Below wr.drew.heap.size wr.drew Wy → YieldAt (Fence.wide.inRound l1) (n - 1 - 1 - 1) Try.prog l #[.int .i64 ys.length, .agg #[.int .i64 0, .int .i64 x, .string ⟨#[]⟩]] Wy fun e W' => ∃ t : Bool, e = .returned (.bool t) ∧ ((t = true → J (bitItems b (ys.length + 1)) W') ∧ (t = false → Jx (bitItems b (ys.length + 1)) W') ∧ KeepsBut X Wy W') := by
      intro Wy hby
      have hs : bitItems b (ys.length + 1) = bitItems b ys.length ++ [((ys.length : Int), truth x)] := by rw [bitItems_succ, ← hxe]
      have hy := HY.out (bitItems b ys.length) ((ys.length : Int), truth x) Wy (HJ.out _ _ _ HJr.out (Below.mono (show Below wr.heap.size wr Wy from below_step (below_drew1 (Below.refl _ _)) hby) HAr.out.sz))
        (by obtain ⟨r, hr⟩ := bitItems_le b (show ys.length + 1 ≤ 8 * b.length from HL.out); exact ⟨r, by rw [← hs, hr, HIT.out]⟩) (by rw [HIT.out, bitItems_length, bitItems_length]; exact HL.out)
      rw [← hs] at hy
      refine (YieldAt.round (YieldAt.any hy)).mono ?_
      rintro e W' (⟨rfl, h1, h2⟩ | ⟨rfl, h1, h2⟩)
      · exact ⟨true, rfl, fun _ => h1, fun h => (by cases h), h2⟩
      · exact ⟨false, rfl, fun h => (by cases h), fun _ => h1, h2⟩
    clear hx01 hxe
    have hn2 : 1 ≤ n - 1 - 1 := by have := HN.out; omega
    refine then_in (M := fun a w => ∃ (t : Bool) (Wy : World), a = { tmps := #[Value.func (Fn.yield l) #[] #[], Value.pointer (some { block := gt, off := 0 }), Value.pointer (some { block := gb, off := 0 }), Value.pointer (some { block := W.heap.size, off := 0 }), Value.pointer (some { block := gi, off := 0 }), Value.int IntKind.i64 x, undef, undef, undef, undef, Value.agg #[Value.int IntKind.i64 0, Value.int IntKind.i64 s], Value.int IntKind.i64 0, Value.bool false, Value.bool false, Value.slice A b.length c, Value.int IntKind.i64 ↑b.length, Value.bool false, Value.bool false, Value.pointer (some { block := gt, off := 0 }), Value.int IntKind.i64 0, Value.bool true, Value.slice A b.length c, Value.func (Fn.func 31) #[] #[Value.pointer (some { block := gi + 1, off := 0 })], Value.int IntKind.i64 x, Value.func (Fn.yield l) #[] #[], Value.int IntKind.i64 ↑ys.length, Value.int IntKind.i64 x, Value.bool (x == 1), Value.agg #[Value.int IntKind.i64 0, Value.int IntKind.i64 x, Value.string { data := #[] }], Value.bool t, Value.bool !t, undef, undef, undef, undef, undef, undef, undef, undef, undef, undef, undef, undef, undef, undef, undef, undef, undef, undef, undef, undef, undef, undef, undef, undef, undef, undef, undef, undef, undef], defers := [] } ∧ Below wr.heap.size wr Wy ∧ ((t = true → J (bitItems b (ys.length + 1)) w) ∧ (t = false → Jx (bitItems b (ys.length + 1)) w) ∧ KeepsBut X Wy w)) ?rest ?reg
    case reg =>
      gi_region_with_o (first | (refine ⟨trivial, ?_⟩; gi_at_call 20; refine (CallsIn.inRound l1 (callsIn_wide.2 (datum_Bool.calls _ _ _ _ _ hDB))).mono ?_; rintro e Wy ⟨rfl, hb⟩; have qi := (hb.cell (p := ⟨gi, 0, none⟩) (World.block_lt_of_cell? wr _ qi)).trans qi; have qy := (hb.cell (p := ⟨W.heap.size, 0, none⟩) (World.block_lt_of_cell? wr _ qy)).trans qy; obtain ⟨fn, tmps, assign, body, hy, hR⟩ := HYB Wy hb) | (refine hR.mono ?_; rintro e W3 ⟨t, rfl, hR3⟩))
      all_goals exact ⟨t, Wy, rfl, below_step (below_drew1 (Below.refl _ _)) hb, hR3⟩
    case rest =>
      rintro a2 w2 ⟨t, Wy, rfl, hby, hJt, hJf, hk⟩
      have HBY := Aside0.mk hby
      have HJT := Aside0.mk hJt
      have HJF := Aside0.mk hJf
      have HK := Aside0.mk hk
      have HA2 := Aside0.mk ((HAr.out.step hby).round (X := X) (by have := HWi.out; omega) HH.out.hXn (fun i hi => HH.out.hXW i hi) hk)
      have HKT := Aside0.mk (show KeepsTwo (gi + 2) wr w2 from fun k o h1 h2 ho hc => (hk.block k (Nat.lt_of_lt_of_le (Array.getElem?_eq_some_iff.1 ho).1 hby.size) (HH.out.hXW k (by have := HWi.out; omega))).trans ((hby.block k (Array.getElem?_eq_some_iff.1 ho).1).trans ho))
      have HKB := Aside0.mk (show Below w0.heap.size wr w2 from (hby.mono HAr.out.b0.size).trans (hk.below (Nat.le_trans HAr.out.b0.size hby.size) HH.out.hXn))
      have qi : w2.cell? ⟨gi, 0, none⟩ = some (.int .i64 ys.length) := blk_cell HA2.out.ri 0
      have qf : w2.frozen? ⟨gi, 0, none⟩ = false := blk_frozen HA2.out.ri 0
      have hw : IntKind.i64.wrap ((ys.length : Int) + 1) = (ys.length : Int) + 1 := IntWalk.i64_in _ (by have := HL.out; omega)
      clear hby hJt hJf hk HYB hDB qy
      have hlen1 : (ys ++ [x]).length = ys.length + 1 := by simp
      cases t
      · gi_wp2
        refine ⟨HKT.out, HKB.out, rfl, ?_⟩
        rw [hlen1]; exact HJF.out (by simp)
      · gi_wp2
        have hset : ∀ k, k ≠ gi → (w2.setCell ⟨gi, 0, none⟩ (.int .i64 ((ys.length : Int) + 1))).heap[k]? = w2.heap[k]? := fun k hk => Below.heap_setCell w2 ⟨gi, 0, none⟩ _ k hk
        have hWi := HWi.out
        have hg := HG.out
        refine ⟨fun k o h1 h2 ho hc => (hset k (by omega)).trans (HKT.out k o h1 h2 ho hc), HKB.out.setCell (by simp only []; omega) _, ?_, ?_⟩
        · rw [hlen1]; exact HJ.out _ _ _ (HJT.out (by simp)) ((Below.refl _ _).setCell (by simp only []; omega) _)
        · rw [hlen1]
          exact ⟨HA2.out.b0.setCell (by simp only []; omega) _, (by show W.heap.size ≤ (w2.heap.modify _ _).size; rw [Array.size_modify]; exact HA2.out.sz), by rw [show ((ys.length + 1 : Nat) : Int) = (ys.length : Int) + 1 by omega]; exact blk_set HA2.out.ri 0 _, (hset _ (by omega)).trans HA2.out.ry⟩
  case done =>
    rintro D ys wr h1 h2 rfl ⟨hj, ha⟩ hD
    rw [allB_length] at hj ha
    have HJr := Aside0.mk hj
    have HAr := Aside0.mk ha
    clear hj ha
    gi_wp2
    refine ⟨by simp, .inl ⟨_, _, rfl, run_takeDeferred hD, ?_⟩⟩
    refine ⟨_, results_none rfl _ _ _, ⟨_, rfl⟩, .inl ⟨_, HIT.out.symm, HJ.out _ _ _ HJr.out ?_⟩⟩
    exact (Below.refl _ _).grown (grownBy_putObj' _ D _) HAr.out.sz (fun r e => by cases e; have := HSZ.out; have := HWi.out; omega)
  case stop =>
    rintro D code pre wr h1 h2 ⟨m, hm, rfl⟩ ⟨rfl, hj⟩ hD
    rw [allB_length] at hj
    have HJr := Aside0.mk hj
    clear hj
    gi_wp2
    refine ⟨by simp, .inl ⟨_, _, rfl, run_takeDeferred hD, ?_⟩⟩
    refine ⟨_, results_none rfl _ _ _, ⟨_, rfl⟩, .inr ⟨bitItems b m, ?_, HJX.out _ _ _ HJr.out ?_⟩⟩
    · obtain ⟨r, hr⟩ := bitItems_le b hm
      exact ⟨r, by rw [hr, HIT.out]⟩
    · exact turns_below (B := gi + 2) ⟨D, _, _, by have := HSZ.out; omega, by have := HSZ.out; omega, hD, rfl, rfl, rfl⟩ (by have := HWi.out; omega)
end Go.Proofs.Ytcklkngljapecaa.X
end

section
namespace Go.Proofs.Ytcklkngljapecaa.X
open Go.RowKit Go.Proofs.YtcklkngljapecaaW.PrintWords
set_option linter.unusedVariables false
variable {P : Program}
theorem region_tail_round {id lr n : Nat} {Q : Exit → Act → World → Prop} {a : Act} {w : World} {l : List Oper} (m : Nat) (hm : P.follows .mixedOrders = true) (hB : Region.lexTailB .any l.toArray m = true) (hp : l.all (fun o => noDefer o.op) = true) (hq : ¬ LetsOut Q)
    (h : ∀ w3 : World, w3 = w.drew → wpStill P l.toArray w3 (fun a' => wpList P l.toArray Q (l.drop m) a' w3) (l.take m) a) : (Code.region id l.toArray true).wpIn (Fence.wide.inRound lr) n P Q a w := by
  have h := h _ rfl
  simp only [Region.lexTailB, Bool.and_eq_true, decide_eq_true_eq] at hB
  obtain ⟨⟨⟨⟨hsel, hn⟩, hs⟩, hc⟩, hlex⟩ := hB
  have hn' : m < l.length := by simpa using hn
  have htl : (l.take m).length = m := by simp; omega
  have hdl : (l.drop m).length = l.toArray.size - m := by simp
  have inv0 : HeadInv .any l.toArray m (Array.replicate l.toArray.size false) :=
    ⟨by simp, fun j oj _ hl => (by rw [getD_replicate_false] at hl; cases hl), fun t _ ht => getD_in (by simpa using ht) (getD_replicate_false _ _)⟩
  have H := wpAnyL_lex (md := .any) (g := l.toArray.size - m) hsel hs hc hn (l.take m) 0 _ a (fun j hj => by
    have hj' : j < m := by rw [htl] at hj; exact hj
    simp [hj']) (by simpa using htl) inv0 (by rw [htl]; exact hlex) h
  have H2 := wpAny_of_head (Q' := Q) (g := l.toArray.size - m) (fun listed a' hL => by
    have := wpAny_of_seq (md := .any) (Q' := Q) (l.drop m) m listed a' w.drew (fun j => by simp [List.getElem?_drop]) (by rw [hdl]; exact hL.1) hL.2
    rwa [hdl] at this) _ _ _ H
  rw [htl, show m + (l.toArray.size - m) = l.toArray.size by omega] at H2
  refine wpIn_region_draw fun t => ?_
  simp only [Region.schedule, hm, Bool.true_or, if_true]
  refine ops_in lr n hq (fun i o ho => ?_) _ _ _ (wpAny_sound l.toArray.size t _ a _ H2)
  have : o ∈ l := by simpa using Array.mem_of_getElem? ho
  exact List.all_eq_true.1 hp o this
theorem wpList_named2 {ops : Array Oper} {Q : Exit → Act → World → Prop} {l : List Oper} {a : Act} {w : World} (h : ∀ Q', Aside0 (∀ a w, Q .normal a w → Q' .normal a w) → wpList P ops Q' l a w) : wpList P ops Q l a w := h Q ⟨fun _ _ h => h⟩
end Go.Proofs.Ytcklkngljapecaa.X
end

section
namespace Go.Proofs.Ytcklkngljapecaa.X
open Go.RowKit Go.Proofs.YtcklkngljapecaaW.PrintWords Go.Proofs.YtcklkngljapecaaW.PrintLast Go.Proofs.YtcklkngljapecaaW.PrintMore Go.Shelf Go.Proofs.Ytcklkngljapecaa.L10 Go.Proofs.Ytcklkngljapecaa.Bx Go.Proofs.Ytcklkngljapecaa.Nx Go.Proofs.Ytcklkngljapecaa.Px Go.Proofs.Ytcklkngljapecaa.L1
attribute [local go_sem] Oper.semAt_some
set_option linter.unusedVariables false
set_option linter.unusedSimpArgs false
theorem all1_lays (n : Nat) (hn : 4 ≤ n) {w0 W : World} {A : Option Addr} {c : Nat} {b : List Int} {k s : Int} {gb gt : Nat} {X : Nat → Prop} (h : AllH w0 W A c b k s gb gt X) : AllLays n w0 W A c b k s gb gt X := by
  by_cases hc : chkB k s = true
  · rcases (chk_kind hc).1 with rfl | h1 | h1 | h1 | h1 | h1 | h1
    · exact all1_B n hn h hc
    · exact all1_W n (by omega) h hc (by omega)
    · exact all1_W n (by omega) h hc (by omega)
    · exact all1_W n (by omega) h hc (by omega)
    · exact all1_W n (by omega) h hc (by omega)
    · exact all1_L n (by omega) h hc h1
    · exact all1_F n (by omega) h hc h1
  · exact all1_refused n (by omega) h (by simpa using hc)
set_option maxHeartbeats 1000000 in
theorem all_in (A : Option Addr) (c : Nat) (xs : List Int) (k s : Int) (w : World) :
    Calls Try.prog 7 #[.slice A xs.length c, .agg #[.int .i64 k, .int .i64 s]] w fun e w' => e = .returned (.func (.func 17) #[] #[.pointer (some ⟨w.heap.size + 1, 0, none⟩), .pointer (some ⟨w.heap.size, 0, none⟩)]) ∧ w' = (w.alloc (.cells #[.slice A xs.length c] 22)).alloc (.cells #[.int .i64 k, .int .i64 s] 25) := by
  have hu25 := Try.underlying25
  go_enter Try.func7, Try.ntmps7
  go_wp2
  go_ret
  exact ⟨rfl, rfl⟩
structure PaH (w : World) (A0 : Option Addr) (m c0 : Nat) (k s leave at_ : Int) (n : Nat) (W : World) : Prop where
  h0 : W.heap[w.heap.size]? = some (.cells #[.slice A0 m c0] 22 (0, 0))
  h1 : W.heap[w.heap.size + 1]? = some (.cells #[.int .i64 k, .int .i64 s] 25 (0, 0))
  h2 : W.heap[w.heap.size + 2]? = some (.cells #[.int .i64 leave] 3 (0, 0))
  h3 : W.heap[w.heap.size + 3]? = some (.cells #[.bool false] 4 (0, 0))
  h4 : W.heap[w.heap.size + 4]? = some (.cells #[.slice A0 m c0] 22 (0, 0))
  h5 : W.heap[w.heap.size + 5]? = some (.cells #[.int .i64 k, .int .i64 s] 25 (0, 0))
  h6 : W.heap[w.heap.size + 6]? = some (.cells #[.int .i64 at_] 3 (0, 0))
  h7 : W.heap[w.heap.size + 7]? = some (.cells #[.int .i64 (n : Int)] 3 (0, 0))
  hb : Below w.heap.size w W
theorem PaH.step {w W W' : World} {A0 : Option Addr} {m c0 : Nat} {k s leave at_ : Int} {n M : Nat} (h : PaH w A0 m c0 k s leave at_ n W) (hb : Below M W W') (hM : w.heap.size + 8 ≤ M) : PaH w A0 m c0 k s leave at_ n W' :=
  ⟨(hb.block _ (by omega)).trans h.h0, (hb.block _ (by omega)).trans h.h1, (hb.block _ (by omega)).trans h.h2, (hb.block _ (by omega)).trans h.h3, (hb.block _ (by omega)).trans h.h4, (hb.block _ (by omega)).trans h.h5, (hb.block _ (by omega)).trans h.h6, (hb.block _ (by omega)).trans h.h7, h.hb.trans (hb.mono (by omega))⟩
theorem PaH.turns {w W W' : World} {A0 : Option Addr} {m c0 : Nat} {k s leave at_ : Int} {n B : Nat} (h : PaH w A0 m c0 k s leave at_ n W) (ht : Turns B W W') (hB : w.heap.size + 8 ≤ B) : PaH w A0 m c0 k s leave at_ n W' := h.step (turns_below ht hB) (Nat.le_refl _)
theorem PaH.setN {w W : World} {A0 : Option Addr} {m c0 : Nat} {k s leave at_ : Int} {n g : Nat} {z : Int} (h : PaH w A0 m c0 k s leave at_ n W) (hg : g = w.heap.size + 7) (hz : z = (n + 1 : Nat)) : PaH w A0 m c0 k s leave at_ (n + 1) (W.setCell ⟨g, 0, none⟩ (.int .i64 z)) := by
  subst hg hz
  exact ⟨blk_far h.h0 (by simp only []; omega) _, blk_far h.h1 (by simp only []; omega) _, blk_far h.h2 (by simp only []; omega) _, blk_far h.h3 (by simp only []; omega) _, blk_far h.h4 (by simp only []; omega) _, blk_far h.h5 (by simp only []; omega) _, blk_far h.h6 (by simp only []; omega) _, blk_set h.h7 0 _, h.hb.setCell (by simp only []; omega) _⟩
theorem PaH.setAt {w W : World} {A0 : Option Addr} {m c0 : Nat} {k s leave at_ : Int} {n g : Nat} {z : Int} (h : PaH w A0 m c0 k s leave at_ n W) (hg : g = w.heap.size + 6) : PaH w A0 m c0 k s leave z n (W.setCell ⟨g, 0, none⟩ (.int .i64 z)) := by
  subst hg
  exact ⟨blk_far h.h0 (by simp only []; omega) _, blk_far h.h1 (by simp only []; omega) _, blk_far h.h2 (by simp only []; omega) _, blk_far h.h3 (by simp only []; omega) _, blk_far h.h4 (by simp only []; omega) _, blk_far h.h5 (by simp only []; omega) _, blk_set h.h6 0 _, blk_far h.h7 (by simp only []; omega) _, h.hb.setCell (by simp only []; omega) _⟩
theorem pa_setsize (W : World) (p : Addr) (v : Value) : (W.setCell p v).heap.size = W.heap.size := by show (W.heap.modify _ _).size = _; rw [Array.size_modify]
theorem keepsTwo_set {B : Nat} {W W' : World} {g o : Nat} (h : KeepsTwo B W W') (hg : g < B) (v : Value) : KeepsTwo B W (W'.setCell ⟨g, o, none⟩ v) := fun k ob h1 h2 ho hc => (Below.heap_setCell W' ⟨g, o, none⟩ v k (by simp only []; omega)).trans (h k ob h1 h2 ho hc)
theorem PaH.held {w W : World} {A0 : Option Addr} {m c0 : Nat} {k s leave at_ : Int} {n : Nat} (h : PaH w A0 m c0 k s leave at_ n W) : W.cell? ⟨w.heap.size, 0, none⟩ = some (.slice A0 m c0) ∧ W.cell? ⟨w.heap.size + 1 + 1 + 1 + 1 + 1 + 1, 0, none⟩ = some (.int .i64 at_) ∧ W.cell? ⟨w.heap.size + 1, 0, none⟩ = some (.int .i64 k) ∧ W.cell? ⟨w.heap.size + 1, 1, none⟩ = some (.int .i64 s) :=
  ⟨blk_cell h.h0 0, blk_cell h.h6 0, blk_cell h.h1 0, blk_cell h.h1 1⟩
theorem pa_new (w : World) (o : Obj) {g : Nat} (h : g = w.heap.size) : (w.alloc o).heap[g]? = some o := by subst h; exact blk_new w o
theorem itemsGo_length (k s : Int) (b : List Int) : ∀ (d : Nat) (at_ : Int), (itemsGo k s b d at_).length ≤ d
  | 0, _ => Nat.le_refl _
  | d + 1, at_ => by
    rw [itemsGo]
    split
    · simp
    · rw [List.length_cons]; exact Nat.succ_le_succ (itemsGo_length k s b d _)
theorem items_length (k s : Int) (b : List Int) : (items k s b).length ≤ 8 * b.length + 1 := by
  unfold items
  split
  · simp
  split
  · rw [bitItems_length]; omega
  · have := itemsGo_length k s b (b.length + 1) 0; omega
theorem pa_result {P : Program} {fn : Func} {p : Tmp} {ty : TypeId} (h : fn.results = #[.cell p ty]) {tmps : Array Value} {w : World} {a : Addr} {v : Value} (hu : P.underlying ty = some .bool) (hp : tmps.getD p undef = .pointer (some a)) (hv : w.cell? a = some v) : (results fn tmps).run P w = .ok v w := by
  have hagg : (isAgg ty).run P w = .ok false w := by
    unfold isAgg
    rw [Sem.run_bind, run_underlying hu w]
    simp
  have hl : (loadVar ty a).run P w = .ok v w := by simp [loadVar, Sem.run_bind, hagg, go_sem, hv]
  unfold results
  rw [h]
  simp only [List.mapM_toArray, Sem.run_bind, Sem.run_map, List.mapM_cons, List.mapM_nil, hp, asAddr, Sem.run_pure, Result.andThen_ok, hl]
  simp
theorem pa_end {n : Nat} {tmps : Array Value} {w W2 : World} {D1 D2 : Nat} {v : Bool} (hv : v = true) (h1 : w.heap.size ≤ D1) (h12 : D1 ≠ D2) (h2 : w.heap.size ≤ D2) (g2 : W2.heap[w.heap.size + 3]? = some (.cells #[.bool false] 4 (0, 0))) (hb : Below w.heap.size w W2)
    (hD1 : W2.heap[D1]? = some (.deferred (some []))) (hD2 : W2.heap[D2]? = some (.deferred (some []))) (hp : tmps.getD 6 undef = .pointer (some ⟨w.heap.size + 1 + 1 + 1, 0, none⟩)) :
    bodyPostM Fence.wide n Try.prog Try.f3 (fun e w' => e = .returned (.bool true) ∧ Below w.heap.size w w') .ret { tmps := tmps, defers := [{ target := .collected D2, args := #[] }, { target := .collected D1, args := #[] }] } (W2.setCell ⟨w.heap.size + 1 + 1 + 1, 0, none⟩ (.bool v)) := by
  subst hv
  obtain ⟨W3, hW3⟩ : ∃ W3, W3 = W2.setCell ⟨w.heap.size + 1 + 1 + 1, 0, none⟩ (.bool true) := ⟨_, rfl⟩
  rw [← hW3]
  have a2 : W3.heap[w.heap.size + 3]? = some (.cells #[.bool true] 4 (0, 0)) := by rw [hW3]; exact blk_set g2 0 _
  have k1 : W3.heap[D1]? = some (.deferred (some [])) := by rw [hW3]; exact (KeepsOthers.setCell _ _ _).same D1 _ hD1 rfl
  have k2 : W3.heap[D2]? = some (.deferred (some [])) := by rw [hW3]; exact (KeepsOthers.setCell _ _ _).same D2 _ hD2 rfl
  have b3 : Below w.heap.size w W3 := by rw [hW3]; exact hb.setCell (by simp only []; omega) _
  clear hW3
  have k1' : (W3.putObj D2 (.deferred none)).heap[D1]? = some (.deferred (some [])) := (World.putObj_heap_other h12).trans k1
  have c2 : (W3.putObj D2 (.deferred none)).cell? ⟨w.heap.size + 1 + 1 + 1, 0, none⟩ = some (.bool true) := cell_kept (blk_cell a2 0) (grownBy_putObj' _ D2 (.deferred none)) (fun r e => by cases e; exact ⟨_, k2, rfl⟩)
  have c2' : ((W3.putObj D2 (.deferred none)).putObj D1 (.deferred none)).cell? ⟨w.heap.size + 1 + 1 + 1, 0, none⟩ = some (.bool true) := cell_kept c2 (grownBy_putObj' _ D1 (.deferred none)) (fun r e => by cases e; exact ⟨_, k1', rfl⟩)
  have b4 := b3.trans (belowK_b (w := w) (Nat.le_refl _) W3 D2 _ (.deferred none) h2 k2 rfl rfl)
  have b5 := b4.trans (belowK_b (w := w) (Nat.le_refl _) _ D1 _ (.deferred none) h1 k1' rfl rfl)
  refine ⟨by simp, .inl ⟨_, _, rfl, run_takeDeferred k2, ?_⟩⟩
  refine ⟨by simp, .inl ⟨_, _, rfl, run_takeDeferred k1', ?_⟩⟩
  exact ⟨_, pa_result rfl (by kernel_rfl) hp c2', rfl, b5⟩
def PaI2 (w : World) (A0 : Option Addr) (b : List Int) (c0 : Nat) (k s leave at_ : Int) (D gl : Nat) (pre : List (Int × S30)) (W : World) : Prop :=
  (pre.length = 0 ∨ (pre.length : Int) < leave) ∧ PaH w A0 b.length c0 k s leave at_ (items k s b).length W ∧ W.heap[gl]? = some (.cells #[.int .i64 pre.length] 3 (0, 0)) ∧ W.heap[D]? = some (.deferred (some []))
def PaX2 (w : World) (A0 : Option Addr) (b : List Int) (c0 : Nat) (k s leave at_ : Int) (D gl : Nat) (c : Code) (pre : List (Int × S30)) (W : World) : Prop :=
  c = .exit 2 ∧ (pre.length = 1 ∨ (pre.length : Int) - 1 < leave ∧ 1 ≤ pre.length) ∧ leave ≤ (pre.length : Int) ∧ PaH w A0 b.length c0 k s leave at_ (items k s b).length W ∧ W.heap[gl]? = some (.cells #[.int .i64 pre.length] 3 (0, 0)) ∧ W.heap[D]? = some (.deferred (some []))
theorem PaI2.step {w W W' : World} {A0 : Option Addr} {b : List Int} {c0 : Nat} {k s leave at_ : Int} {D gl M : Nat} {pre : List (Int × S30)} (h : PaI2 w A0 b c0 k s leave at_ D gl pre W) (hb : Below M W W') (hM : w.heap.size + 8 ≤ M) (hD : D < M) (hg : gl < M) : PaI2 w A0 b c0 k s leave at_ D gl pre W' :=
  ⟨h.1, h.2.1.step hb hM, (hb.block _ hg).trans h.2.2.1, (hb.block _ hD).trans h.2.2.2⟩
theorem PaX2.step {w W W' : World} {A0 : Option Addr} {b : List Int} {c0 : Nat} {k s leave at_ : Int} {D gl M : Nat} {c : Code} {pre : List (Int × S30)} (h : PaX2 w A0 b c0 k s leave at_ D gl c pre W) (hb : Below M W W') (hM : w.heap.size + 8 ≤ M) (hD : D < M) (hg : gl < M) : PaX2 w A0 b c0 k s leave at_ D gl c pre W' :=
  ⟨h.1, h.2.1, h.2.2.1, h.2.2.2.1.step hb hM, (hb.block _ hg).trans h.2.2.2.2.1, (hb.block _ hD).trans h.2.2.2.2.2⟩
theorem wpIn_rangeFunc_lays0 {F : Fence} {n : Nat} {P : Program} {α : Type} {g : Operand} {ps : Array Tmp} {body : Code} {Q : Exit → Act → World → Prop} {a : Act} {w : World}
    (hro : F.round = none) (h1 : 1 ≤ n) {gf : Nat} {lb : Array Value} (hg : a.eval g = .func (.func gf) #[] lb) (hFg : F.fn gf) (eg : ∀ args w, (callFunc gf args).run P w = .ok (.enter gf args) w)
    {encs : α → Array Value} {Ab Kp : World → World → Prop} {G : List α → α → World → Prop} {S Sp : List α → Prop} {N : Nat} (hseq : ∀ o1 o2, SeqLays F (n - 1) P gf lb encs Ab Kp G S Sp N ((w.alloc o1).alloc o2))
    (hAb : ∀ A B : World, Ab A B → KeepsTwo w.heap.size A B) (hKr : ∀ A, Kp A A)
    (hKt : ∀ {A B C : World}, Kp A B → Kp B C → Kp A C) (hKb : ∀ A B : World, Turns w.heap.size A B → Kp A B) (hps : ∀ x, (encs x).size = ps.size)
    (I : List α → World → Prop) (Ix : Code → List α → World → Prop) (hI : ∀ s A B, I s A → Ab A B → I s B) (hIx : ∀ c s A B, Ix c s A → Ab A B → Ix c s B) (hIt : ∀ s A B, I s A → Turns w.heap.size A B → I s B) (hIxt : ∀ c s A B, Ix c s A → Turns w.heap.size A B → Ix c s B)
    (hG : ∀ pre x A B, G pre x A → G pre x B) (h0 : ∀ o1 o2, I [] ((w.alloc o1).alloc o2))
    (hbody : ∀ (l : Nat) (pre : List α) (x : α) (W : World), I pre W → G pre x W → pre.length < N → body.wpIn (F.inRound l) (n - 1 - 1) P (postLays w.heap.size Kp I Ix (pre ++ [x]) W) { tmps := (ps.zip (encs x)).foldl (fun t (p, v) => t.setIfInBounds p v) a.tmps, defers := [] } W)
    (hdone : ∀ (D : Nat) (xs : List α) (W : World), w.heap.size ≤ D → D < w.heap.size + 2 → S xs → I xs W → W.heap[D]? = some (.deferred (some [])) → Q .normal { a with defers := { target := .collected D, args := #[] } :: a.defers } W)
    (hstop : ∀ (D : Nat) (c : Code) (pre : List α) (W : World), w.heap.size ≤ D → D < w.heap.size + 2 → Sp pre → Ix c pre W → W.heap[D]? = some (.deferred (some [])) → c.wpIn F n P Q { a with defers := { target := .collected D, args := #[] } :: a.defers } W) :
    (Code.rangeFunc g ps .skip body).wpIn F n P Q a w :=
  wpIn_rangeFunc_lays1 hro h1 hg hFg eg hseq hAb hKr hKt hKb hps I Ix hI hIx hIt hIxt hG h0 (fun x => { tmps := (ps.zip (encs x)).foldl (fun t (p, v) => t.setIfInBounds p v) a.tmps, defers := [] }) (fun l x W K hK => wpIn_skip hK) hbody hdone hstop
def PosOK (k s : Int) (b : List Int) (at_ : Int) (pre : List (Int × S30)) : Prop :=
  chkB k s = true → (k = 0 → at_ = 0 ∧ pre = bitItems b pre.length) ∧ (k ≠ 0 → 0 ≤ at_ ∧ at_ ≤ (b.length : Int) ∧ ∃ d : Nat, (b.length : Int) < at_ + d ∧ pre ++ itemsGo k s b d at_ = items k s b)
def PaI (w : World) (A0 : Option Addr) (b : List Int) (c0 : Nat) (k s leave : Int) (pre : List (Int × S30)) (W : World) : Prop := ∃ at_ : Int, PaH w A0 b.length c0 k s leave at_ pre.length W ∧ PosOK k s b at_ pre ∧ w.heap.size + 10 ≤ W.heap.size
def PaX (w : World) (i : Nat) : Prop := w.heap.size + 6 ≤ i ∧ i < w.heap.size + 10
def paAct (w : World) (A0 : Option Addr) (b : List Int) (c0 : Nat) (k s leave : Int) (x : Int × S30) (gd : Nat) : Act :=
  { tmps := #[Value.slice A0 b.length c0, Value.agg #[Value.int IntKind.i64 k, Value.int IntKind.i64 s], Value.int IntKind.i64 leave, .pointer (some ⟨w.heap.size, 0, none⟩), .pointer (some ⟨w.heap.size + 1, 0, none⟩), .pointer (some ⟨w.heap.size + 1 + 1, 0, none⟩), .pointer (some ⟨w.heap.size + 1 + 1 + 1, 0, none⟩),
      .func (.func 17) #[] #[.pointer (some ⟨w.heap.size + 1 + 1 + 1 + 1 + 1, 0, none⟩), .pointer (some ⟨w.heap.size + 1 + 1 + 1 + 1, 0, none⟩)], .pointer (some ⟨w.heap.size + 1 + 1 + 1 + 1 + 1 + 1, 0, none⟩), .pointer (some ⟨w.heap.size + 1 + 1 + 1 + 1 + 1 + 1 + 1, 0, none⟩),
      .int .i64 x.1, .pointer (some ⟨gd, 0, none⟩), undef, undef, undef, undef, undef, Value.slice A0 b.length c0, Value.int IntKind.i64 ↑b.length, Value.bool false, Value.slice A0 b.length c0, Value.agg #[Value.int IntKind.i64 k, Value.int IntKind.i64 s],
      .func (.func 17) #[] #[.pointer (some ⟨w.heap.size + 1 + 1 + 1 + 1 + 1, 0, none⟩), .pointer (some ⟨w.heap.size + 1 + 1 + 1 + 1, 0, none⟩)],
      .func (.func 17) #[] #[.pointer (some ⟨w.heap.size + 1 + 1 + 1 + 1 + 1, 0, none⟩), .pointer (some ⟨w.heap.size + 1 + 1 + 1 + 1, 0, none⟩)], Value.bool false,
      .func (.func 17) #[] #[.pointer (some ⟨w.heap.size + 1 + 1 + 1 + 1 + 1, 0, none⟩), .pointer (some ⟨w.heap.size + 1 + 1 + 1 + 1, 0, none⟩)],
      .int .i64 x.1, .agg #[.int .i64 x.2.f0, .int .i64 x.2.f1, .string x.2.f2], undef, undef, undef, undef, undef, undef, undef, undef, undef, undef, undef, undef, undef, undef, undef, undef, undef, undef, undef, undef, undef, undef, undef, undef, undef, undef, undef, undef, undef, undef, undef, undef, undef, undef, undef, undef, undef, undef, undef, undef, undef, undef, undef, undef, undef, undef, undef, undef, undef, undef, undef, undef, undef, undef, undef, undef, undef, undef, undef, undef, undef, undef, undef, undef, undef, undef, undef, undef, undef, undef, undef, undef, undef, undef, undef, undef, undef, undef, undef, undef, undef, undef, undef, undef, undef, undef, undef, undef, undef, undef, undef, undef, undef, undef, undef, undef, undef, undef, undef, undef, undef, undef, undef, undef, undef, undef, undef, undef, undef, undef, undef, undef, undef, undef, undef, undef, undef, undef, undef, undef, undef], defers := [] }
def PaA (w : World) (A0 : Option Addr) (b : List Int) (c0 : Nat) (k s leave : Int) (pre : List (Int × S30)) (x : Int × S30) (a' : Act) (W : World) : Prop :=
  ∃ gd, a' = paAct w A0 b c0 k s leave x gd ∧ w.heap.size + 10 ≤ gd ∧ W.heap[gd]? = some (.cells #[.int .i64 x.2.f0, .int .i64 x.2.f1, .string x.2.f2] 30 (0, 0)) ∧ PaI w A0 b c0 k s leave pre W ∧ ∃ r, (pre ++ [x]) ++ r = items k s b
theorem PaI.step {w W W' : World} {A0 : Option Addr} {b : List Int} {c0 : Nat} {k s leave : Int} {pre : List (Int × S30)} {M : Nat} (h : PaI w A0 b c0 k s leave pre W) (hb : Below M W W') (hM : w.heap.size + 8 ≤ M) : PaI w A0 b c0 k s leave pre W' := let ⟨a, h1, h2, h3⟩ := h; ⟨a, h1.step hb hM, h2, Nat.le_trans h3 hb.size⟩
set_option maxRecDepth 100000 in
set_option maxHeartbeats 8000000 in
theorem pa_main (K : Nat) (hK : 30 ≤ K) (A0 : Option Addr) (c0 : Nat) (b : List Int) (k s leave : Int) (w : World) (hr0 : Kd.C (Kd.int .u8) w A0 b.length b) (hc0 : b.length ≤ c0) (hlen : b.length ≤ 500) (hu : ∀ x ∈ b, 0 ≤ x ∧ x ≤ 255) (hk : (Lit.int .i64 k).wf = true) (n : Nat) (hn : 8 ≤ n) :
    CallsIn Fence.wide n Try.prog 3 #[.slice A0 b.length c0, .agg #[.int .i64 k, .int .i64 s], .int .i64 leave] w fun e w' => e = .returned (.bool true) ∧ Below w.heap.size w w' := by
  have hro : Fence.wide.round = none := rfl
  have hu25 := Try.underlying25
  have hu30 := Try.underlying30
  have HR0 := Aside0.mk hr0
  have HC0 := Aside0.mk hc0
  have HU := Aside0.mk hu
  have HKw := Aside0.mk hk
  have h1n : 1 ≤ n := by omega
  have HN := Aside0.mk hn
  have HKK := Aside0.mk hK
  clear hr0 hu hk hn hK hc0
  have h1b : decide ((b.length : Int) > 500) = false := decide_eq_false (by omega)
  have hnil : ∀ (b : Addr) (c : Addr) (W : World), (binOp .eql 27 (.func (.func 17) #[] #[.pointer (some b), .pointer (some c)]) .nilFunc).run Try.prog W = .ok (.bool false) W := by
    intro b c W
    have e : (Op.equal 27 (.func (.func 17) #[] #[.pointer (some b), .pointer (some c)]) .nilFunc).run Try.prog W = .ok false W := by kernel_rfl
    simp [binOp, go_sem, e]
  refine callsIn_of_wp_marks Try.func3 rfl trivial ?_ hro
  simp only [Try.ntmps3, List.size_toArray, List.length_cons, List.length_nil, Nat.reduceAdd, Nat.reduceSub, Array.replicate_succ, Array.replicate_zero, List.push_toArray, List.append_toArray, List.nil_append, List.cons_append]
  gi_wp2_with (refine ⟨trivial, ?_⟩; gi_at_call 7; refine (callsIn_wide.2 (all_in A0 c0 b k s _)).mono ?_; rintro e w' ⟨rfl, rfl⟩)
  refine lays_named fun W0 hW0 => ?_
  have F0 : PaH w A0 b.length c0 k s leave 0 0 W0 := by
    rw [hW0]
    refine ⟨?_, ?_, ?_, ?_, ?_, ?_, ?_, ?_, ?_⟩
    rotate_right
    · exact below_alloc (below_alloc (below_alloc (below_alloc (below_alloc (below_alloc (below_alloc (below_alloc (Below.refl _ _) _) _) _) _) _) _) _) _
    all_goals repeat (first | (refine pa_new _ _ ?_; ((try simp only [World.size_alloc]) <;> omega)) | (refine blk_alloc ?_ _))
  have hsz : W0.heap.size = w.heap.size + 8 := by rw [hW0]; simp only [World.size_alloc]
  have FI := Aside0.mk F0
  clear hW0 F0 hnil
  refine wpIn_rangeFunc_lays (encs := encP) (Ab := Below (w.heap.size + 10)) (Kp := KeepsBut (PaX w)) (G := itemG k s b) (S := fun xs => xs = items k s b) (Sp := itemP k s b) (N := (items k s b).length) hro h1n (gf := 17) (lb := #[.pointer (some ⟨w.heap.size + 1 + 1 + 1 + 1 + 1, 0, none⟩), .pointer (some ⟨w.heap.size + 1 + 1 + 1 + 1, 0, none⟩)]) rfl trivial (enters_of Try.func17 (by kernel_rfl) rfl)
    ?hseq ?hAb (fun h k => h.trans k) (fun A B h => KeepsBut.of_turns h (fun i h1 h2 => ⟨by omega, by omega⟩)) (fun _ => rfl)
    (PaI w A0 b c0 k s leave) (fun _ _ _ => False) (fun p A B h hb => h.step hb (by omega)) (fun _ _ _ _ h _ => h.elim) (fun p A B h ht => h.step (turns_below ht (Nat.le_refl _)) (by omega)) (fun _ _ _ _ h _ => h.elim)
    (fun o1 o2 => ⟨0, FI.out.step (below_alloc (below_alloc (Below.refl _ _) _) _) (by omega), fun hc => ⟨fun h0 => ⟨rfl, rfl⟩, fun h0 => ⟨by omega, by omega, b.length + 1, by omega, ?h0⟩⟩, by simp only [World.size_alloc]; omega⟩)
    (PaA w A0 b c0 k s leave) ?hAx ?assign ?body ?done ?stop
  case hseq =>
    intro o1 o2
    have h4 := blk_alloc (blk_alloc FI.out.h4 o1) o2
    have h5 := blk_alloc (blk_alloc FI.out.h5 o1) o2
    have hb := below_alloc (below_alloc FI.out.hb o1) o2
    have hs2 : ((W0.alloc o1).alloc o2).heap.size = w.heap.size + 10 := by simp only [World.size_alloc]; omega
    have := all1_lays (n - 1) (by have := HN.out; omega) (X := PaX w) (gb := w.heap.size + 4) (gt := w.heap.size + 5) (k := k) (s := s) (A := A0) (c := c0) (b := b) (w0 := w) (W := (W0.alloc o1).alloc o2) ⟨HR0.out, HC0.out, hlen, HU.out, HKw.out, hb, h4, h5, fun i h => (by have := h.1; omega), fun h => (by have := h.1; omega), fun h => (by have := h.1; omega), fun i hi h => (by have := h.2; omega)⟩
    unfold AllLays at this
    rw [hs2] at this
    exact this
  case hAb => exact fun A B h => KeepsTwo.of_below h (by omega)
  case h0 => unfold items; rw [if_neg (by rw [hc]; simp), if_neg h0]; rfl
  case hAx =>
    rintro pre x a' A B ⟨gd, h1, h2, h3, h4, h5⟩ ht
    exact ⟨gd, h1, h2, ht.at h3 (.inr (by omega)), h4.step (turns_below ht (Nat.le_refl _)) (by omega), h5⟩
  case assign =>
    intro l pre x Wa Kc hi hg hl hK
    have HI := Aside0.mk hi
    have HG := Aside0.mk hg
    have HKc := Aside0.mk hK
    clear hi hg hl hK FI
    dsimp only [encP]
    gi_wp2
    have hsW : w.heap.size + 10 ≤ Wa.heap.size := by obtain ⟨_, _, _, h⟩ := HI.out; exact h
    exact HKc.out _ _ (KeepsTwo.of_below (below_alloc (Below.refl Wa.heap.size Wa) _) (by omega)) (KeepsBut.of_below (below_alloc (Below.refl _ _) _)) ⟨Wa.heap.size, rfl, hsW, blk_new _ _, HI.out.step (below_alloc (Below.refl Wa.heap.size _) _) (by omega), HG.out⟩
  case body =>
    rintro l pre x a' Wr ⟨gd, rfl, hgd, hd, ⟨at_, hH, hP, hsz2⟩, hr⟩ hl
    have hc : chkB k s = true := by
      by_cases hc : chkB k s = true
      · exact hc
      · obtain ⟨r, hr⟩ := hr
        rw [items, if_pos (by simpa using hc)] at hr
        simp at hr
    have HCHK : ∀ W, Calls Try.prog 8 #[.agg #[.int .i64 k, .int .i64 s]] W fun e w' => e = .returned (.bool true) ∧ Below W.heap.size W w' := fun W => marquetryref09_Check.calls K k s true W (by rw [ref_check (by have := HKK.out; omega), hc])
    have HH := Aside0.mk hH
    have HD := Aside0.mk hd
    have HP := Aside0.mk (hP hc)
    have HR := Aside0.mk hr
    have HL := Aside0.mk hl
    have HGD := Aside0.mk hgd
    have HSZ := Aside0.mk hsz2
    have hn1 : 1 ≤ n - 1 - 1 := by have := HN.out; omega
    have c10 := (blk_cell hH.h1 0).trans rfl
    have c11 := (blk_cell hH.h1 1).trans rfl
    have HCC := Aside0.mk hc
    clear hr hP hd hH hl hgd hsz2 FI hc
    unfold paAct
    by_cases h0 : k = 0
    · subst h0
      have hI : items 0 s b = bitItems b (8 * b.length) := by unfold items; rw [if_neg (by rw [HCC.out]; simp), if_pos rfl]
      obtain ⟨ha0, hpre⟩ := HP.out.1 rfl
      subst ha0
      have hl8 : pre.length < 8 * b.length := by have := HL.out; rwa [hI, bitItems_length] at this
      have hx : x = ((pre.length : Int), truth (bitv (b.getD (pre.length / 8) 0) (pre.length % 8))) := by
        obtain ⟨r, hr⟩ := HR.out
        obtain ⟨r2, hr2⟩ := bitItems_le b (show pre.length + 1 ≤ 8 * b.length by omega)
        rw [hI, ← hr2, bitItems_succ] at hr
        have := congrArg (fun q => q[pre.length]?) hr
        simpa [bitItems_length] using this
      subst hx
      have HPR := Aside0.mk hpre
      have HI8 := Aside0.mk hI
      clear hpre hI HP HR HL
      obtain ⟨y, hy⟩ : ∃ y, y = b.getD (pre.length / 8) 0 := ⟨_, rfl⟩
      obtain ⟨ad, had, hcell⟩ := c_at (Kd.C_below HR0.out HH.out.hb) ((pre.length / 8 : Nat) : Int) (by omega) (by omega)
      subst had
      rw [show rd b ((pre.length / 8 : Nat) : Int) = b.getD (pre.length / 8) 0 from rfl, ← hy, show (((pre.length / 8 : Nat) : Int)).toNat = pre.length / 8 from rfl] at hcell
      rw [← hy] at HD ⊢
      have HYv := Aside0.mk hy
      have HCL := Aside0.mk hcell
      clear hy hcell
      gi_wp2_with (refine ⟨trivial, ?_⟩; gi_at_call 8; refine (CallsIn.inRound l (callsIn_wide.2 (HCHK _))).mono ?_; rintro e W1 ⟨rfl, hb⟩; have HH1 := Aside0.mk (HH.out.step hb (by have := HSZ.out; omega)); have HD1 := Aside0.mk (blk_below HD.out hb); have HB1 := Aside0.mk hb; have d10 := (blk_cell HH1.out.h1 0).trans rfl; have d11 := (blk_cell HH1.out.h1 1).trans rfl; have HC1 := Aside0.mk ((hb.cell (World.block_lt_of_cell? _ _ HCL.out)).trans HCL.out); clear hb c10 c11 HCHK)
      rename_i K1 hK1
      have HK1 := Aside0.mk hK1
      clear hK1
      refine region_tail_round 36 (by kernel_rfl) (by kernel_rfl) (by kernel_rfl) (by rintro ⟨_, _, h⟩; exact h) (fun w3 hw3 => ?_)
      simp only [List.take_succ_cons, List.take_zero, List.drop_succ_cons, List.drop_zero]
      have HH3 := Aside0.mk (show PaH w (some ad) b.length c0 0 s leave 0 pre.length w3 from (by rw [hw3]; exact HH1.out.step (below_drew1 (Below.refl W1.heap.size _)) (by have := HSZ.out; have := HB1.out.size; omega)))
      have e0 : w3.cell? ⟨w.heap.size, 0, none⟩ = some (.slice (some ad) b.length c0) := blk_cell HH3.out.h0 0
      have e10 : w3.cell? ⟨w.heap.size + 1, 0, none⟩ = some (.int .i64 0) := blk_cell HH3.out.h1 0
      have e7 : w3.cell? ⟨w.heap.size + 1 + 1 + 1 + 1 + 1 + 1 + 1, 0, none⟩ = some (.int .i64 pre.length) := blk_cell HH3.out.h7 0
      have hD3 : w3.heap[gd]? = some (.cells #[.int .i64 0, .int .i64 (bitv y (pre.length % 8)), .string ⟨#[]⟩] 30 (0, 0)) := by rw [hw3]; exact HD1.out
      have eg0 : w3.cell? ⟨gd, 0, none⟩ = some (.int .i64 0) := blk_cell hD3 0
      have eg1 : w3.cell? ⟨gd, 1, none⟩ = some (.int .i64 (bitv y (pre.length % 8))) := blk_cell hD3 1
      have eg2 : w3.cell? ⟨gd, 2, none⟩ = some (.string ⟨#[]⟩) := blk_cell hD3 2
      have ec : w3.cell? (ad.add (pre.length / 8)) = some (.int .u8 y) := by rw [hw3]; exact HC1.out
      have f1 : IntKind.i64.wrap (8 * (b.length : Int)) = 8 * (b.length : Int) := IntWalk.i64_in _ (by omega)
      have f2 : decide (8 * (b.length : Int) ≤ (pre.length : Int)) = false := decide_eq_false (by omega)
      obtain ⟨q, hq⟩ : ∃ q, q = pre.length / 8 := ⟨_, rfl⟩
      obtain ⟨t, ht⟩ : ∃ t, t = pre.length % 8 := ⟨_, rfl⟩
      have f3 : IntKind.i64.wrap ((pre.length : Int) / 8) = (q : Int) := by rw [IntWalk.i64_in _ (by omega)]; omega
      have f4 : IntKind.i64.wrap ((pre.length : Int) % 8) = (t : Int) := by rw [IntWalk.i64_in _ (by omega)]; omega
      have f7 : (pre.length : Int) % 8 = (t : Int) := by omega
      have f11 : (pre.length : Int).tmod 8 = (t : Int) := by rw [Int.tmod_eq_emod_of_nonneg (by omega)]; omega
      have f5 : (0 : Int) ≤ (q : Int) := by omega
      have f6 : (q : Int) < (b.length : Int) := by omega
      have f8 : (0 : Int) ≤ (t : Int) := by omega
      have f9 : ((t : Int)).toNat = t := rfl
      have f10 : ((q : Int)).toNat = q := rfl
      rw [← ht] at eg1
      rw [← hq] at ec
      have HQT := Aside0.mk (And.intro hq ht)
      clear hq ht
      have HW3 := Aside0.mk hw3
      clear hw3
      repeat still_step
      refine wpStill_nil ?_
      refine wpList_named2 fun Q' hQ' => ?_
      clear f1 f2 f3 f4 f5 f6 f7 f8 f9 f10 f11 e0 e10 e7 eg0 eg1 eg2 ec d10 d11 h1b
      go_wp2
      refine hQ'.out _ _ ?_
      clear hQ' Q'
      simp only [Exit.then]
      refine HK1.out _ _ ?_
      have e7 : w3.cell? ⟨w.heap.size + 1 + 1 + 1 + 1 + 1 + 1 + 1, 0, none⟩ = some (.int .i64 pre.length) := blk_cell HH3.out.h7 0
      have f7 : w3.frozen? ⟨w.heap.size + 1 + 1 + 1 + 1 + 1 + 1 + 1, 0, none⟩ = false := blk_frozen HH3.out.h7 0
      have hw : IntKind.i64.wrap ((pre.length : Int) + 1) = (pre.length : Int) + 1 := IntWalk.i64_in _ (by omega)
      have HL8 := Aside0.mk hl8
      clear hl8
      simp only [bitv]
      gi_wp2
      have hB3 : Below Wr.heap.size Wr w3 := by rw [HW3.out]; exact below_drew1 HB1.out
      have hsz := HSZ.out
      refine ⟨keepsTwo_set (KeepsTwo.of_below hB3 (by omega)) (by omega) _, (KeepsBut.of_below hB3).trans (KeepsBut.setCell _ _ _ ⟨by omega, by omega⟩), 0, ?_, ?_, ?_⟩
      · rw [List.length_append, List.length_singleton]; exact HH3.out.setN (by omega) (by omega)
      · refine fun _ => ⟨fun _ => ⟨rfl, ?_⟩, fun h => absurd rfl h⟩
        rw [List.length_append, List.length_singleton, bitItems_succ, ← HPR.out, ← HYv.out]
      · rw [pa_setsize]; exact Nat.le_trans hsz hB3.size
    · have d0 : (k == 0) = false := beq_eq_false_iff_ne.2 h0
      obtain ⟨h0a, h1a, d, hd1, hd2⟩ := HP.out.2 h0
      have hs : k = 7 → 1 ≤ s := fun e => ((chk_kind HCC.out).2 e).1
      obtain ⟨r, hr⟩ := HR.out
      have hgo : itemsGo k s b d at_ = x :: r := List.append_cancel_left (by rw [hd2, ← hr]; simp)
      obtain ⟨m, hm⟩ : ∃ m, m = (FrontS k s (b.drop at_.toNat)).2 := ⟨_, rfl⟩
      obtain ⟨d, rfl⟩ : ∃ j, d = j + 1 := by
        cases d with
        | zero => cases hgo
        | succ d => exact ⟨d, rfl⟩
      have hm0 : m ≠ 0 := by
        intro e
        rw [itemsGo_none (by rw [← hm, e])] at hgo
        cases hgo
      rw [itemsGo_step (by rw [← hm]; exact hm0), ← hm] at hgo
      injection hgo with hx hr2
      subst hx
      obtain ⟨y, hy⟩ : ∃ y, y = (FrontS k s (b.drop at_.toNat)).1 := ⟨_, rfl⟩
      rw [← hy] at HD HR hr ⊢
      have hfr : marquetryref09_Front.f K (b.drop at_.toNat) k s = some (y.f0, y.f1, y.f2, m) := by
        rw [ref_front (by have := HKK.out; omega) (drop_u8 HU.out _) (by rw [List.length_drop]; omega) hs (by have := (chk_kind HCC.out).1; omega), ← hy, ← hm]
      obtain ⟨z0, z1⟩ := FrontS_size (k := k) (s := s) (drop_u8 HU.out at_.toNat) hs
      rw [← hm, List.length_drop] at z1
      rw [← hm] at z0
      obtain ⟨i0, hi0, _, hsz, _⟩ := info_parts info5
      obtain ⟨A1, hcut, hDd, hC1⟩ := print_drop_of (P := Try.prog) (Value.int .u8) 0 22 5 .i64 Try.underlying22 hi0 hsz A0 c0 b at_ h0a h1a HC0.out
      obtain ⟨bb, hbl⟩ : ∃ bb, bb = b.drop at_.toNat := ⟨_, rfl⟩
      rw [← hbl] at hcut hDd hfr hC1
      have HD2 := Aside0.mk (Kd.C_of_reads (h1 := fun _ => rfl) (hDd _ (Kd.reads_of_C (Kd.C_below HR0.out HH.out.hb))))
      have HCALL : ∀ Wz, Below Wr.heap.size Wr Wz → Calls Try.prog 9 #[.slice A1 bb.length (c0 - at_.toNat), .agg #[.int .i64 k, .int .i64 s]] Wz fun e w' => e = .returned (.tuple #[.agg #[.int .i64 y.f0, .int .i64 y.f1, .string y.f2], .int .i64 m]) ∧ Below Wz.heap.size Wz w' := fun Wz hWz => marquetryref09_Front.calls K A1 _ bb k s y.f0 y.f1 y.f2 m Wz (Kd.C_below HD2.out hWz) hC1 hfr
      have HM := Aside0.mk (show 0 ≤ at_ ∧ at_ ≤ b.length ∧ 0 < m ∧ at_ + m ≤ b.length ∧ (b.length : Int) < at_ + m + d ∧ itemsGo k s b d (at_ + m) = r from ⟨h0a, h1a, by omega, by omega, by omega, hr2⟩)
      have HRI := Aside0.mk (show (pre ++ [(at_, y)]) ++ r = items k s b from hr)
      have HPL := Aside0.mk (show pre.length ≤ 100000 from by have := itemsGo_length k s b (b.length + 1) 0; have h := HL.out; rw [items, if_neg (by rw [HCC.out]; simp), if_neg h0] at h; omega)
      have q3 : (m == 0) = false := beq_eq_false_iff_ne.2 hm0
      have hwr : IntKind.i64.wrap (at_ + m) = at_ + m := IntWalk.i64_in _ (by omega)
      clear hbl hDd hfr hy hm hd1 hd2 hr hr2 z0 z1 HP HR h0 hm0 hs
      gi_wp2_with (refine ⟨trivial, ?_⟩; gi_at_call 8; refine (CallsIn.inRound l (callsIn_wide.2 (HCHK _))).mono ?_; rintro e W1 ⟨rfl, hb⟩; have HH1 := Aside0.mk (HH.out.step hb (by have := HSZ.out; omega)); have HD1 := Aside0.mk (blk_below HD.out hb); have HB1 := Aside0.mk hb; have d10 := (blk_cell HH1.out.h1 0).trans rfl; have d11 := (blk_cell HH1.out.h1 1).trans rfl; clear hb c10 c11 HCHK)
      rename_i K1 hK1
      have HK1 := Aside0.mk hK1
      clear hK1
      have e0 : W1.cell? ⟨w.heap.size, 0, none⟩ = some (.slice A0 b.length c0) := blk_cell HH1.out.h0 0
      have e6 : W1.cell? ⟨w.heap.size + 1 + 1 + 1 + 1 + 1 + 1, 0, none⟩ = some (.int .i64 at_) := blk_cell HH1.out.h6 0
      have e10 : W1.cell? ⟨w.heap.size + 1, 0, none⟩ = some (.int .i64 k) := blk_cell HH1.out.h1 0
      have e11 : W1.cell? ⟨w.heap.size + 1, 1, none⟩ = some (.int .i64 s) := blk_cell HH1.out.h1 1
      refine wpIn_region_round (S := fun w' => w'.cell? ⟨w.heap.size, 0, none⟩ = some (.slice A0 b.length c0) ∧ w'.cell? ⟨w.heap.size + 1 + 1 + 1 + 1 + 1 + 1, 0, none⟩ = some (.int .i64 at_) ∧ w'.cell? ⟨w.heap.size + 1, 0, none⟩ = some (.int .i64 k) ∧ w'.cell? ⟨w.heap.size + 1, 1, none⟩ = some (.int .i64 s)) (by kernel_rfl) (by kernel_rfl) (by rintro ⟨_, _, h⟩; exact h) ⟨e0, e6, e10, e11⟩ (fun hHeld => ?_)
      refine wpAnyH_take (i := 0) (oi := { dst := some 74, op := Op.load 22 (Operand.tmp 3), type := 22, pos := "law.go:88", after := #[], guard := none }) (v := .slice A0 b.length c0) rfl (by kernel_rfl) (by kernel_rfl) (by kernel_rfl) (fun _ _ _ h => h) (Or.inl ⟨by rfl, ?_⟩) (by assumption) ?_
      · (intro w hSw; (try dsimp only at hSw); go_simp)
      try simp only [Act.put, List.setIfInBounds_toArray, List.set_cons_zero, List.set_cons_succ]
      refine wpAnyH_take (i := 1) (oi := { dst := some 75, op := Op.load 3 (Operand.tmp 8), type := 3, pos := "law.go:88", after := #[], guard := none }) (v := .int .i64 at_) rfl (by kernel_rfl) (by kernel_rfl) (by kernel_rfl) (fun _ _ _ h => h) (Or.inl ⟨by rfl, ?_⟩) (by assumption) ?_
      · (intro w hSw; (try dsimp only at hSw); go_simp)
      try simp only [Act.put, List.setIfInBounds_toArray, List.set_cons_zero, List.set_cons_succ]
      refine wpAnyH_take (i := 2) (oi := { dst := some 76, op := Op.slice 22 (Operand.tmp 74) (some (Operand.tmp 75)) none none, type := 22, pos := "law.go:88", after := #[{ on := 0, ground := Ground.data }, { on := 1, ground := Ground.data }], guard := none }) (v := .slice A1 bb.length (c0 - at_.toNat)) rfl (by kernel_rfl) (by kernel_rfl) (by kernel_rfl) (fun _ _ _ h => h) (Or.inl ⟨by rfl, ?_⟩) (by assumption) ?_
      · (intro w hSw; (try dsimp only at hSw); go_simp)
      try simp only [Act.put, List.setIfInBounds_toArray, List.set_cons_zero, List.set_cons_succ]
      refine wpAnyH_take (i := 3) (oi := { dst := some 77, op := Op.load 25 (Operand.tmp 4), type := 25, pos := "law.go:88", after := #[], guard := none }) (v := .agg #[.int .i64 k, .int .i64 s]) rfl (by kernel_rfl) (by kernel_rfl) (by kernel_rfl) (fun _ _ _ h => h) (Or.inl ⟨by rfl, ?_⟩) (by assumption) ?_
      · (intro w hSw; (try dsimp only at hSw); go_simp)
      try simp only [Act.put, List.setIfInBounds_toArray, List.set_cons_zero, List.set_cons_succ]
      refine wpAnyH_ready (rs := [4, 8]) (by kernel_rfl) (by simp) ?_
      refine AllReadyH.cons (o := { dst := some 78, op := Op.call { callee := Callee.value (Operand.func 9), args := #[Operand.tmp 76, Operand.tmp 77], argTypes := #[22, 25] }, type := 32, pos := "law.go:88", after := #[{ on := 2, ground := Ground.data }, { on := 3, ground := Ground.data }], guard := none }) rfl (fun K hK => ?_) ?_
      · go_simp
        go_at_call 9
        refine (HCALL _ (HB1.out.trans (Below.mono (below_drew1 (Below.refl W1.heap.size W1)) HB1.out.size))).mono ?_
        rintro e Wy ⟨rfl, hb⟩
        have HBy := Aside0.mk (show Below W1.heap.size W1 Wy from below_step (below_drew1 (Below.refl W1.heap.size W1)) hb)
        refine hK.out _ _ ?_ (fun hHeld2 => ?_)
        · exact PaH.held (HH1.out.step (HBy.out) (by have := HSZ.out; have := HB1.out.size; omega))
        clear hK K hHeld
        have hHeld := hHeld2
        clear hHeld2
        try simp only [Act.put, List.setIfInBounds_toArray, List.set_cons_zero, List.set_cons_succ]
        refine wpAnyH_take (i := 5) (oi := { dst := some 73, op := Op.move (Operand.tmp 78), type := 32, pos := "law.go:88", after := #[{ on := 4, ground := Ground.data }], guard := none }) (v := .tuple #[.agg #[.int .i64 y.f0, .int .i64 y.f1, .string y.f2], .int .i64 m]) rfl (by kernel_rfl) (by kernel_rfl) (by kernel_rfl) (fun _ _ _ h => h) (Or.inl ⟨by rfl, ?_⟩) (by assumption) ?_
        · (intro w hSw; (try dsimp only at hSw); go_simp)
        try simp only [Act.put, List.setIfInBounds_toArray, List.set_cons_zero, List.set_cons_succ]
        refine wpAnyH_take (i := 6) (oi := { dst := some 79, op := Op.extract (Operand.tmp 73) 0, type := 30, pos := "law.go:88", after := #[{ on := 5, ground := Ground.data }], guard := none }) (v := .agg #[.int .i64 y.f0, .int .i64 y.f1, .string y.f2]) rfl (by kernel_rfl) (by kernel_rfl) (by kernel_rfl) (fun _ _ _ h => h) (Or.inl ⟨by rfl, ?_⟩) (by assumption) ?_
        · (intro w hSw; (try dsimp only at hSw); go_simp)
        try simp only [Act.put, List.setIfInBounds_toArray, List.set_cons_zero, List.set_cons_succ]
        refine wpAnyH_take (i := 7) (oi := { dst := some 80, op := Op.extract (Operand.tmp 73) 1, type := 3, pos := "law.go:88", after := #[{ on := 5, ground := Ground.data }, { on := 9, ground := Ground.gcOnly Departure.lateStores }], guard := none }) (v := .int .i64 m) rfl (by kernel_rfl) (by kernel_rfl) (by kernel_rfl) (fun _ _ _ h => h) (Or.inl ⟨by rfl, ?_⟩) (by assumption) ?_
        · (intro w hSw; (try dsimp only at hSw); go_simp)
        try simp only [Act.put, List.setIfInBounds_toArray, List.set_cons_zero, List.set_cons_succ]
        refine wpAnyH_ready (rs := [8]) (by kernel_rfl) (by simp) ?_
        refine AllReadyH.cons (o := { dst := some 12, op := Op.alloc 30, type := 0, pos := "law.go:88", after := #[], guard := none }) rfl (fun K hK => ?_) ?_
        · go_simp
          refine hK.out _ _ ?_ (fun hHeld2 => ?_)
          · exact PaH.held (HH1.out.step (below_alloc HBy.out _) (by have := HSZ.out; have := HB1.out.size; omega))
          clear hK K hHeld
          have hHeld := hHeld2
          clear hHeld2
          try simp only [Act.put, List.setIfInBounds_toArray, List.set_cons_zero, List.set_cons_succ]
          refine wpAnyH_ready (rs := [9]) (by kernel_rfl) (by simp) ?_
          refine AllReadyH.cons (o := { dst := none, op := Op.store 30 (Operand.tmp 12) (Operand.tmp 79), type := 0, pos := "law.go:88", after := #[{ on := 8, ground := Ground.data }, { on := 6, ground := Ground.data }, { on := 4, ground := Ground.chain }, { on := 0, ground := Ground.phase }, { on := 1, ground := Ground.phase }, { on := 2, ground := Ground.phase }, { on := 3, ground := Ground.phase }, { on := 4, ground := Ground.phase }, { on := 5, ground := Ground.phase }, { on := 6, ground := Ground.phase }, { on := 7, ground := Ground.textOnly Departure.lateStores }, { on := 8, ground := Ground.phase }], guard := none }) rfl (fun K hK => ?_) ?_
          · go_simp
            refine hK.out _ _ ?_ (fun hHeld2 => ?_)
            · exact PaH.held (HH1.out.step (below_alloc HBy.out _) (by have := HSZ.out; have := HB1.out.size; omega))
            clear hK K hHeld
            have hHeld := hHeld2
            clear hHeld2
            try simp only [Act.put, List.setIfInBounds_toArray, List.set_cons_zero, List.set_cons_succ]
            refine wpAnyH_ready (rs := [10]) (by kernel_rfl) (by simp) ?_
            refine AllReadyH.cons (o := { dst := some 13, op := Op.assign (Operand.tmp 80), type := 3, pos := "law.go:88", after := #[{ on := 7, ground := Ground.data }, { on := 9, ground := Ground.chain }, { on := 0, ground := Ground.phase }, { on := 1, ground := Ground.phase }, { on := 2, ground := Ground.phase }, { on := 3, ground := Ground.phase }, { on := 4, ground := Ground.phase }, { on := 5, ground := Ground.phase }, { on := 6, ground := Ground.phase }, { on := 7, ground := Ground.phase }, { on := 8, ground := Ground.phase }, { on := 9, ground := Ground.phase }], guard := none }) rfl (fun K hK => ?_) ?_
            · go_simp
              refine hK.out _ _ ?_ (fun hHeld2 => ?_)
              · exact PaH.held (HH1.out.step (below_alloc HBy.out _) (by have := HSZ.out; have := HB1.out.size; omega))
              clear hK K hHeld
              have hHeld := hHeld2
              clear hHeld2
              try simp only [Act.put, List.setIfInBounds_toArray, List.set_cons_zero, List.set_cons_succ]
              refine wpAnyH_done (by kernel_rfl) ?_ _
              refine exit_named fun Wx hWx => ?_
              have HGF := Aside0.mk (show Wx.heap[Wy.heap.size]? = some (.cells #[.int .i64 y.f0, .int .i64 y.f1, .string y.f2] 30 (0, 0)) from (by rw [hWx]; exact blk_new _ _))
              have HBX := Aside0.mk (show Below W1.heap.size W1 Wx from (by rw [hWx]; exact below_alloc HBy.out _))
              obtain ⟨gf, hgf⟩ : ∃ gf, gf = Wy.heap.size := ⟨_, rfl⟩
              rw [← hgf] at HGF ⊢
              clear hWx hHeld hb hgf HCALL HBy e0 e6 e10 e11 d10 d11 h1b hn1 hcut
              simp only [Exit.then]
              refine HK1.out _ _ ?_
              have hH2 := HH1.out.step HBX.out (by have := HSZ.out; have := HB1.out.size; omega)
              have HH2 := Aside0.mk hH2
              have e6 : Wx.cell? ⟨w.heap.size + 1 + 1 + 1 + 1 + 1 + 1, 0, none⟩ = some (.int .i64 at_) := blk_cell hH2.h6 0
              have f6 := blk_frozen hH2.h6 0
              have e7 : Wx.cell? ⟨w.heap.size + 1 + 1 + 1 + 1 + 1 + 1 + 1, 0, none⟩ = some (.int .i64 pre.length) := blk_cell hH2.h7 0
              have f7 := blk_frozen hH2.h7 0
              have hd2 := blk_below HD1.out HBX.out
              have ed0 : Wx.cell? ⟨gd, 0, none⟩ = some (.int .i64 y.f0) := blk_cell hd2 0
              have ed1 : Wx.cell? ⟨gd, 1, none⟩ = some (.int .i64 y.f1) := blk_cell hd2 1
              have ed2 : Wx.cell? ⟨gd, 2, none⟩ = some (.string y.f2) := blk_cell hd2 2
              have eg0 : Wx.cell? ⟨gf, 0, none⟩ = some (.int .i64 y.f0) := blk_cell HGF.out 0
              have eg1 : Wx.cell? ⟨gf, 1, none⟩ = some (.int .i64 y.f1) := blk_cell HGF.out 1
              have eg2 : Wx.cell? ⟨gf, 2, none⟩ = some (.string y.f2) := blk_cell HGF.out 2
              have hwn : IntKind.i64.wrap ((pre.length : Int) + 1) = (pre.length : Int) + 1 := IntWalk.i64_in _ (by have := HM.out; have := HPL.out; omega)
              clear hH2 hd2 HGF
              gi_wp2
              have hB : Below Wr.heap.size Wr Wx := HB1.out.trans (HBX.out.mono HB1.out.size)
              have hsz := HSZ.out
              have hm := HM.out
              refine ⟨keepsTwo_set (keepsTwo_set (KeepsTwo.of_below hB (by omega)) (by omega) _) (by omega) _, ((KeepsBut.of_below hB).trans (KeepsBut.setCell _ _ _ ⟨by omega, by omega⟩)).trans (KeepsBut.setCell _ _ _ ⟨by omega, by omega⟩), at_ + m, ?_, ?_, ?_⟩
              · rw [List.length_append, List.length_singleton]; exact (HH2.out.setAt (by omega)).setN (by omega) (by omega)
              · exact fun _ => ⟨fun h => absurd (by rw [h]; rfl) (Bool.eq_false_iff.1 d0), fun _ => ⟨by omega, by omega, d, by omega, by rw [hm.2.2.2.2.2]; exact HRI.out⟩⟩
              · rw [pa_setsize, pa_setsize]; exact Nat.le_trans hsz hB.size
            exact AllReadyH.nil
          exact AllReadyH.nil
        exact AllReadyH.nil
      refine AllReadyH.cons (o := { dst := some 12, op := Op.alloc 30, type := 0, pos := "law.go:88", after := #[], guard := none }) rfl (fun K hK => ?_) ?_
      · go_simp
        refine hK.out _ _ ?_ (fun hHeld2 => ?_)
        · exact PaH.held (HH1.out.step (below_alloc (below_drew1 (Below.refl W1.heap.size W1)) _) (by have := HSZ.out; have := HB1.out.size; omega))
        clear hK K hHeld
        have hHeld := hHeld2
        clear hHeld2
        try simp only [Act.put, List.setIfInBounds_toArray, List.set_cons_zero, List.set_cons_succ]
        refine wpAnyH_ready (rs := [4]) (by kernel_rfl) (by simp) ?_
        refine AllReadyH.cons (o := { dst := some 78, op := Op.call { callee := Callee.value (Operand.func 9), args := #[Operand.tmp 76, Operand.tmp 77], argTypes := #[22, 25] }, type := 32, pos := "law.go:88", after := #[{ on := 2, ground := Ground.data }, { on := 3, ground := Ground.data }], guard := none }) rfl (fun K hK => ?_) ?_
        · go_simp
          go_at_call 9
          refine (HCALL _ (HB1.out.trans (Below.mono (below_alloc (below_drew1 (Below.refl W1.heap.size W1)) _) HB1.out.size))).mono ?_
          rintro e Wy ⟨rfl, hb⟩
          have HBy := Aside0.mk (show Below W1.heap.size W1 Wy from below_step (below_alloc (below_drew1 (Below.refl W1.heap.size W1)) _) hb)
          refine hK.out _ _ ?_ (fun hHeld2 => ?_)
          · exact PaH.held (HH1.out.step (HBy.out) (by have := HSZ.out; have := HB1.out.size; omega))
          clear hK K hHeld
          have hHeld := hHeld2
          clear hHeld2
          try simp only [Act.put, List.setIfInBounds_toArray, List.set_cons_zero, List.set_cons_succ]
          have hz : Wy.heap[W1.heap.size]? = some (.cells #[.int .i64 0, .int .i64 0, .string ⟨#[]⟩] 30 (0, 0)) := blk_below (blk_new W1.drew _) hb
          have zc0 := (blk_cell hz 0).trans rfl
          have zf0 := blk_frozen hz 0
          have zc1 := (blk_cell hz 1).trans rfl
          have zf1 := blk_frozen hz 1
          have zc2 := (blk_cell hz 2).trans rfl
          have zf2 := blk_frozen hz 2
          refine wpAnyH_take (i := 5) (oi := { dst := some 73, op := Op.move (Operand.tmp 78), type := 32, pos := "law.go:88", after := #[{ on := 4, ground := Ground.data }], guard := none }) (v := .tuple #[.agg #[.int .i64 y.f0, .int .i64 y.f1, .string y.f2], .int .i64 m]) rfl (by kernel_rfl) (by kernel_rfl) (by kernel_rfl) (fun _ _ _ h => h) (Or.inl ⟨by rfl, ?_⟩) (by assumption) ?_
          · (intro w hSw; (try dsimp only at hSw); go_simp)
          try simp only [Act.put, List.setIfInBounds_toArray, List.set_cons_zero, List.set_cons_succ]
          refine wpAnyH_take (i := 6) (oi := { dst := some 79, op := Op.extract (Operand.tmp 73) 0, type := 30, pos := "law.go:88", after := #[{ on := 5, ground := Ground.data }], guard := none }) (v := .agg #[.int .i64 y.f0, .int .i64 y.f1, .string y.f2]) rfl (by kernel_rfl) (by kernel_rfl) (by kernel_rfl) (fun _ _ _ h => h) (Or.inl ⟨by rfl, ?_⟩) (by assumption) ?_
          · (intro w hSw; (try dsimp only at hSw); go_simp)
          try simp only [Act.put, List.setIfInBounds_toArray, List.set_cons_zero, List.set_cons_succ]
          refine wpAnyH_take (i := 7) (oi := { dst := some 80, op := Op.extract (Operand.tmp 73) 1, type := 3, pos := "law.go:88", after := #[{ on := 5, ground := Ground.data }, { on := 9, ground := Ground.gcOnly Departure.lateStores }], guard := none }) (v := .int .i64 m) rfl (by kernel_rfl) (by kernel_rfl) (by kernel_rfl) (fun _ _ _ h => h) (Or.inl ⟨by rfl, ?_⟩) (by assumption) ?_
          · (intro w hSw; (try dsimp only at hSw); go_simp)
          try simp only [Act.put, List.setIfInBounds_toArray, List.set_cons_zero, List.set_cons_succ]
          refine wpAnyH_ready (rs := [9]) (by kernel_rfl) (by simp) ?_
          refine AllReadyH.cons (o := { dst := none, op := Op.store 30 (Operand.tmp 12) (Operand.tmp 79), type := 0, pos := "law.go:88", after := #[{ on := 8, ground := Ground.data }, { on := 6, ground := Ground.data }, { on := 4, ground := Ground.chain }, { on := 0, ground := Ground.phase }, { on := 1, ground := Ground.phase }, { on := 2, ground := Ground.phase }, { on := 3, ground := Ground.phase }, { on := 4, ground := Ground.phase }, { on := 5, ground := Ground.phase }, { on := 6, ground := Ground.phase }, { on := 7, ground := Ground.textOnly Departure.lateStores }, { on := 8, ground := Ground.phase }], guard := none }) rfl (fun K hK => ?_) ?_
          · go_simp
            refine hK.out _ _ ?_ (fun hHeld2 => ?_)
            · exact PaH.held (HH1.out.step (below_set (below_set (below_set HBy.out (Nat.le_refl _)) (Nat.le_refl _)) (Nat.le_refl _)) (by have := HSZ.out; have := HB1.out.size; omega))
            clear hK K hHeld
            have hHeld := hHeld2
            clear hHeld2
            try simp only [Act.put, List.setIfInBounds_toArray, List.set_cons_zero, List.set_cons_succ]
            refine wpAnyH_ready (rs := [10]) (by kernel_rfl) (by simp) ?_
            refine AllReadyH.cons (o := { dst := some 13, op := Op.assign (Operand.tmp 80), type := 3, pos := "law.go:88", after := #[{ on := 7, ground := Ground.data }, { on := 9, ground := Ground.chain }, { on := 0, ground := Ground.phase }, { on := 1, ground := Ground.phase }, { on := 2, ground := Ground.phase }, { on := 3, ground := Ground.phase }, { on := 4, ground := Ground.phase }, { on := 5, ground := Ground.phase }, { on := 6, ground := Ground.phase }, { on := 7, ground := Ground.phase }, { on := 8, ground := Ground.phase }, { on := 9, ground := Ground.phase }], guard := none }) rfl (fun K hK => ?_) ?_
            · go_simp
              refine hK.out _ _ ?_ (fun hHeld2 => ?_)
              · exact PaH.held (HH1.out.step (below_set (below_set (below_set HBy.out (Nat.le_refl _)) (Nat.le_refl _)) (Nat.le_refl _)) (by have := HSZ.out; have := HB1.out.size; omega))
              clear hK K hHeld
              have hHeld := hHeld2
              clear hHeld2
              try simp only [Act.put, List.setIfInBounds_toArray, List.set_cons_zero, List.set_cons_succ]
              refine wpAnyH_done (by kernel_rfl) ?_ _
              refine exit_named fun Wx hWx => ?_
              have HGF := Aside0.mk (show Wx.heap[W1.heap.size]? = some (.cells #[.int .i64 y.f0, .int .i64 y.f1, .string y.f2] 30 (0, 0)) from (by rw [hWx]; exact blk_set (blk_set (blk_set hz 0 _) 1 _) 2 _))
              have HBX := Aside0.mk (show Below W1.heap.size W1 Wx from (by rw [hWx]; exact below_set (below_set (below_set HBy.out (Nat.le_refl _)) (Nat.le_refl _)) (Nat.le_refl _)))
              obtain ⟨gf, hgf⟩ : ∃ gf, gf = W1.heap.size := ⟨_, rfl⟩
              rw [← hgf] at HGF ⊢
              clear hWx hHeld hb hgf HCALL HBy e0 e6 e10 e11 d10 d11 h1b hn1 hcut hz zc0 zc1 zc2 zf0 zf1 zf2
              simp only [Exit.then]
              refine HK1.out _ _ ?_
              have hH2 := HH1.out.step HBX.out (by have := HSZ.out; have := HB1.out.size; omega)
              have HH2 := Aside0.mk hH2
              have e6 : Wx.cell? ⟨w.heap.size + 1 + 1 + 1 + 1 + 1 + 1, 0, none⟩ = some (.int .i64 at_) := blk_cell hH2.h6 0
              have f6 := blk_frozen hH2.h6 0
              have e7 : Wx.cell? ⟨w.heap.size + 1 + 1 + 1 + 1 + 1 + 1 + 1, 0, none⟩ = some (.int .i64 pre.length) := blk_cell hH2.h7 0
              have f7 := blk_frozen hH2.h7 0
              have hd2 := blk_below HD1.out HBX.out
              have ed0 : Wx.cell? ⟨gd, 0, none⟩ = some (.int .i64 y.f0) := blk_cell hd2 0
              have ed1 : Wx.cell? ⟨gd, 1, none⟩ = some (.int .i64 y.f1) := blk_cell hd2 1
              have ed2 : Wx.cell? ⟨gd, 2, none⟩ = some (.string y.f2) := blk_cell hd2 2
              have eg0 : Wx.cell? ⟨gf, 0, none⟩ = some (.int .i64 y.f0) := blk_cell HGF.out 0
              have eg1 : Wx.cell? ⟨gf, 1, none⟩ = some (.int .i64 y.f1) := blk_cell HGF.out 1
              have eg2 : Wx.cell? ⟨gf, 2, none⟩ = some (.string y.f2) := blk_cell HGF.out 2
              have hwn : IntKind.i64.wrap ((pre.length : Int) + 1) = (pre.length : Int) + 1 := IntWalk.i64_in _ (by have := HM.out; have := HPL.out; omega)
              clear hH2 hd2 HGF
              gi_wp2
              have hB : Below Wr.heap.size Wr Wx := HB1.out.trans (HBX.out.mono HB1.out.size)
              have hsz := HSZ.out
              have hm := HM.out
              refine ⟨keepsTwo_set (keepsTwo_set (KeepsTwo.of_below hB (by omega)) (by omega) _) (by omega) _, ((KeepsBut.of_below hB).trans (KeepsBut.setCell _ _ _ ⟨by omega, by omega⟩)).trans (KeepsBut.setCell _ _ _ ⟨by omega, by omega⟩), at_ + m, ?_, ?_, ?_⟩
              · rw [List.length_append, List.length_singleton]; exact (HH2.out.setAt (by omega)).setN (by omega) (by omega)
              · exact fun _ => ⟨fun h => absurd (by rw [h]; rfl) (Bool.eq_false_iff.1 d0), fun _ => ⟨by omega, by omega, d, by omega, by rw [hm.2.2.2.2.2]; exact HRI.out⟩⟩
              · rw [pa_setsize, pa_setsize]; exact Nat.le_trans hsz hB.size
            exact AllReadyH.nil
          exact AllReadyH.nil
        exact AllReadyH.nil
      exact AllReadyH.nil
  case done =>
    rintro D xs W1 hD1 hD2 rfl ⟨at_, hH, hP, hsz⟩ hDD
    have HH := Aside0.mk hH
    have HDD := Aside0.mk hDD
    have HSZ := Aside0.mk hsz
    have HP := Aside0.mk hP
    have HDr := Aside0.mk (And.intro hD1 hD2)
    have HCHK : ∀ W, Calls Try.prog 8 #[.agg #[.int .i64 k, .int .i64 s]] W fun e w' => e = .returned (.bool (chkB k s)) ∧ Below W.heap.size W w' := fun W => marquetryref09_Check.calls K k s (chkB k s) W (by rw [ref_check (by have := HKK.out; omega)])
    clear hH hDD hsz hP FI hD1 hD2 h1b
    by_cases hc : chkB k s = true
    · rw [hc] at HCHK
      by_cases h0 : k = 0
      · subst h0
        have hI : (items 0 s b).length = 8 * b.length := by unfold items; rw [if_neg (by rw [hc]; simp), if_pos rfl, bitItems_length]
        have f1 : IntKind.i64.wrap (8 * (b.length : Int)) = 8 * (b.length : Int) := IntWalk.i64_in _ (by omega)
        have f2 : (((items 0 s b).length : Int) != 8 * (b.length : Int)) = false := by rw [hI]; simp
        have c0' : W1.cell? ⟨w.heap.size, 0, none⟩ = some (.slice A0 b.length c0) := blk_cell HH.out.h0 0
        have c6 : W1.cell? ⟨w.heap.size + 1 + 1 + 1 + 1 + 1 + 1, 0, none⟩ = some (.int .i64 at_) := blk_cell HH.out.h6 0
        have c7 : W1.cell? ⟨w.heap.size + 1 + 1 + 1 + 1 + 1 + 1 + 1, 0, none⟩ = some (.int .i64 ((items 0 s b).length : Int)) := blk_cell HH.out.h7 0
        have c10 : W1.cell? ⟨w.heap.size + 1, 0, none⟩ = some (.int .i64 0) := blk_cell HH.out.h1 0
        have c11 : W1.cell? ⟨w.heap.size + 1, 1, none⟩ = some (.int .i64 s) := blk_cell HH.out.h1 1
        clear hc hI
        gi_wp2_with (refine ⟨trivial, ?_⟩; gi_at_call 8; refine (callsIn_wide.2 (HCHK _)).mono ?_; rintro e W1 ⟨rfl, hb⟩; have n0_ := Aside0.mk (HH.out.step hb (by have := HSZ.out; omega)); have n1_ := Aside0.mk ((hb.block D (blk_lt HDD.out)).trans HDD.out); have n2_ := Aside0.mk (Nat.le_trans HSZ.out hb.size); clear HH HDD HSZ hb c0' c6 c7 c10 c11; have HH := n0_; have HDD := n1_; have HSZ := n2_; clear n0_ n1_ n2_; have c0' : W1.cell? ⟨w.heap.size, 0, none⟩ = some (.slice A0 b.length c0) := blk_cell HH.out.h0 0; have c6 : W1.cell? ⟨w.heap.size + 1 + 1 + 1 + 1 + 1 + 1, 0, none⟩ = some (.int .i64 at_) := blk_cell HH.out.h6 0; have c7 : W1.cell? ⟨w.heap.size + 1 + 1 + 1 + 1 + 1 + 1 + 1, 0, none⟩ = some (.int .i64 ((items 0 s b).length : Int)) := blk_cell HH.out.h7 0; have c10 : W1.cell? ⟨w.heap.size + 1, 0, none⟩ = some (.int .i64 0) := blk_cell HH.out.h1 0; have c11 : W1.cell? ⟨w.heap.size + 1, 1, none⟩ = some (.int .i64 s) := blk_cell HH.out.h1 1)
        refine lays_named fun W2 hW2 => ?_
        obtain ⟨gl, hgl⟩ : ∃ gl, gl = W1.heap.size := ⟨_, rfl⟩
        rw [← hgl]
        have HHf := Aside0.mk (show PaH w A0 b.length c0 0 s leave at_ (items 0 s b).length W2 from (by rw [hW2]; exact HH.out.step (below_alloc (Below.refl _ _) _) (by have := HSZ.out; omega)))
        have hL2 : W2.heap[gl]? = some (.cells #[.int .i64 0] 3 (0, 0)) := by rw [hW2, hgl]; exact blk_new _ _
        have hD2 : W2.heap[D]? = some (.deferred (some [])) := by rw [hW2]; exact (Below.heap_alloc _ _ _ (blk_lt HDD.out)).trans HDD.out
        have hsz2 : W2.heap.size = gl + 1 := by rw [hW2, hgl]; simp only [World.size_alloc]
        have hgl2 : w.heap.size + 10 ≤ gl := by rw [hgl]; exact HSZ.out
        have HI2 := Aside0.mk (show PaI2 w A0 b c0 0 s leave at_ D gl [] W2 from ⟨.inl rfl, HHf.out, hL2, hD2⟩)
        have hDr := HDr.out
        have HS2 := Aside0.mk hsz2
        have HGL := Aside0.mk hgl2
        clear hW2 hL2 hD2 HH HSZ HDD hgl HP HCHK
        refine wpIn_rangeFunc_lays0 (encs := encP) (Ab := Below (gl + 3)) (Kp := KeepsBut (fun i => gl ≤ i ∧ i < gl + 3)) (G := itemG 0 s b) (S := fun xs => xs = items 0 s b) (Sp := itemP 0 s b) (N := (items 0 s b).length) hro h1n (gf := 17) (lb := #[.pointer (some ⟨w.heap.size + 1 + 1 + 1 + 1 + 1, 0, none⟩), .pointer (some ⟨w.heap.size + 1 + 1 + 1 + 1, 0, none⟩)]) rfl trivial (enters_of Try.func17 (by kernel_rfl) rfl)
          ?hseq2 (fun A B h => KeepsTwo.of_below h (by omega)) (fun A => KeepsBut.refl _ A) (fun h k => h.trans k) (fun A B h => KeepsBut.of_turns h (fun i h1 h2 => ⟨by omega, by omega⟩)) (fun _ => rfl)
          (PaI2 w A0 b c0 0 s leave at_ D gl) (PaX2 w A0 b c0 0 s leave at_ D gl) (fun p A B h hb => h.step hb (by omega) (by omega) (by omega)) (fun c p A B h hb => h.step hb (by omega) (by omega) (by omega))
          (fun p A B h ht => h.step (turns_below ht (Nat.le_refl _)) (by omega) (by omega) (by omega)) (fun c p A B h ht => h.step (turns_below ht (Nat.le_refl _)) (by omega) (by omega) (by omega)) (fun _ _ _ _ h => h)
          (fun o1 o2 => HI2.out.step (below_alloc (below_alloc (Below.refl _ _) _) _) (by omega) (by omega) (by omega)) ?body2 ?done2 ?stop2
        case hseq2 =>
          intro o1 o2
          have h4 := blk_alloc (blk_alloc HHf.out.h4 o1) o2
          have h5 := blk_alloc (blk_alloc HHf.out.h5 o1) o2
          have hb := below_alloc (below_alloc HHf.out.hb o1) o2
          have hs2 : ((W2.alloc o1).alloc o2).heap.size = gl + 3 := by simp only [World.size_alloc]; omega
          have := all1_lays (n - 1) (by have := HN.out; omega) (X := fun i => gl ≤ i ∧ i < gl + 3) (gb := w.heap.size + 4) (gt := w.heap.size + 5) (k := 0) (s := s) (A := A0) (c := c0) (b := b) (w0 := w) (W := (W2.alloc o1).alloc o2) ⟨HR0.out, HC0.out, hlen, HU.out, HKw.out, hb, h4, h5, fun i h => (by have := h.1; omega), fun h => (by have := h.1; omega), fun h => (by have := h.1; omega), fun i hi h => (by have := h.2; omega)⟩
          unfold AllLays at this
          rw [hs2] at this
          exact this
        case body2 =>
          rintro l pre x W2 ⟨hlt, hH, hL, hDD⟩ hG hl
          dsimp only [encP]
          have HH := Aside0.mk hH
          have HL := Aside0.mk hL
          have HDD := Aside0.mk hDD
          have Hlt := Aside0.mk hlt
          have cL := blk_cell hL 0
          have fL := blk_frozen hL 0
          have cv := blk_cell hH.h2 0
          have hpl : (pre.length : Int) ≤ 5000 := by have := items_length 0 s b; omega
          have hwn : IntKind.i64.wrap ((pre.length : Int) + 1) = (pre.length : Int) + 1 := IntWalk.i64_in _ (by omega)
          clear hH hL hDD hlt HI2 HHf hG hl
          have hset : ∀ j, j ≠ gl → (W2.setCell ⟨gl, 0, none⟩ (.int .i64 ((pre.length : Int) + 1))).heap[j]? = W2.heap[j]? := fun j hj => Below.heap_setCell W2 ⟨gl, 0, none⟩ _ j hj
          have hbs : Below gl W2 (W2.setCell ⟨gl, 0, none⟩ (.int .i64 ((pre.length : Int) + 1))) := (Below.refl _ W2).setCell (Nat.le_refl gl) _
          have HSET := Aside0.mk hset
          have HBS := Aside0.mk hbs
          clear hset hbs
          by_cases he : leave ≤ (pre.length : Int) + 1
          · have heb := decide_eq_true he
            gi_wp2
            have hlt := Hlt.out
            refine ⟨keepsTwo_set (KeepsTwo.refl _ _) (by omega) _, KeepsBut.setCell _ _ _ ⟨by omega, by omega⟩, rfl, ?_, ?_, HH.out.step HBS.out (by omega), ?_, (HSET.out D (by omega)).trans HDD.out⟩
            · simp only [List.length_append, List.length_singleton]; omega
            · simp only [List.length_append, List.length_singleton]; omega
            · rw [show ((pre ++ [x]).length : Int) = (pre.length : Int) + 1 by simp]; exact blk_set HL.out 0 _
          · have heb := decide_eq_false he
            gi_wp2
            have hlt := Hlt.out
            refine ⟨keepsTwo_set (KeepsTwo.refl _ _) (by omega) _, KeepsBut.setCell _ _ _ ⟨by omega, by omega⟩, ?_, HH.out.step HBS.out (by omega), ?_, (HSET.out D (by omega)).trans HDD.out⟩
            · simp only [List.length_append, List.length_singleton]; omega
            · rw [show ((pre ++ [x]).length : Int) = (pre.length : Int) + 1 by simp]; exact blk_set HL.out 0 _
        case done2 =>
          rintro D2 xs W3 hD2a hD2b rfl ⟨hlt, hH, hL, hDD⟩ hK2
          have cL := blk_cell hL 0
          have cv := blk_cell hH.h2 0
          have c7 := blk_cell hH.h7 0
          have c3 := blk_cell hH.h3 0
          have f3 := blk_frozen hH.h3 0
          have HH := Aside0.mk hH
          have HDD := Aside0.mk hDD
          have HK2 := Aside0.mk hK2
          clear hH hL hDD hK2 HI2 HHf
          gi_wp2
          all_goals exact pa_end (by first | rfl | (simp only [beq_iff_eq]; omega)) (by omega) (by omega) (by omega) HH.out.h3 HH.out.hb HDD.out HK2.out rfl
        case stop2 =>
          rintro D2 c pre W3 hD2a hD2b ⟨r, hr⟩ ⟨rfl, hlt, hle, hH, hL, hDD⟩ hK2
          have hle2 : pre.length ≤ (items 0 s b).length := by rw [← hr]; simp
          have cL := blk_cell hL 0
          have cv := blk_cell hH.h2 0
          have c7 := blk_cell hH.h7 0
          have c3 := blk_cell hH.h3 0
          have f3 := blk_frozen hH.h3 0
          have HH := Aside0.mk hH
          have HDD := Aside0.mk hDD
          have HK2 := Aside0.mk hK2
          clear hH hL hDD hK2 HI2 HHf hr
          gi_wp2
          all_goals exact pa_end (by first | rfl | (simp only [beq_iff_eq]; omega)) (by omega) (by omega) (by omega) HH.out.h3 HH.out.hb HDD.out HK2.out rfl
      · have d0 : (k == 0) = false := beq_eq_false_iff_ne.2 h0
        have d1 : (k != 0) = true := by simpa using h0
        by_cases hlt : at_ < (b.length : Int)
        · have d2 : decide (at_ < (b.length : Int)) = true := decide_eq_true hlt
          obtain ⟨h0a, h1a, d, hd1, hd2⟩ := (HP.out hc).2 h0
          have hs : k = 7 → 1 ≤ s := fun e => ((chk_kind hc).2 e).1
          have hgo : itemsGo k s b d at_ = [] := by
            have := congrArg List.length hd2
            simp only [List.length_append] at this
            exact List.length_eq_zero_iff.1 (by omega)
          obtain ⟨d, rfl⟩ : ∃ j, d = j + 1 := ⟨d - 1, by omega⟩
          have hm0 : (FrontS k s (b.drop at_.toNat)).2 = 0 := by
            by_cases e : (FrontS k s (b.drop at_.toNat)).2 = 0
            · exact e
            · rw [itemsGo_step e] at hgo; cases hgo
          obtain ⟨y, hy⟩ : ∃ y, y = (FrontS k s (b.drop at_.toNat)).1 := ⟨_, rfl⟩
          have hfr : marquetryref09_Front.f K (b.drop at_.toNat) k s = some (y.f0, y.f1, y.f2, 0) := by
            rw [ref_front (by have := HKK.out; omega) (drop_u8 HU.out _) (by rw [List.length_drop]; omega) hs (by have := (chk_kind hc).1; omega), ← hy, hm0]
          obtain ⟨i0, hi0, _, hsz8, _⟩ := info_parts info5
          obtain ⟨A1, hcut, hDd, hC1⟩ := print_drop_of (P := Try.prog) (Value.int .u8) 0 22 5 .i64 Try.underlying22 hi0 hsz8 A0 c0 b at_ h0a h1a HC0.out
          obtain ⟨bb, hbl⟩ : ∃ bb, bb = b.drop at_.toNat := ⟨_, rfl⟩
          rw [← hbl] at hcut hDd hfr hC1
          have HD2 := Aside0.mk (Kd.C_of_reads (h1 := fun _ => rfl) (hDd _ (Kd.reads_of_C HR0.out)))
          have HCALL : ∀ Wz, Below w.heap.size w Wz → Calls Try.prog 9 #[.slice A1 bb.length (c0 - at_.toNat), .agg #[.int .i64 k, .int .i64 s]] Wz fun e w' => e = .returned (.tuple #[.agg #[.int .i64 y.f0, .int .i64 y.f1, .string y.f2], .int .i64 0]) ∧ Below Wz.heap.size Wz w' := fun Wz hWz => marquetryref09_Front.calls K A1 _ bb k s y.f0 y.f1 y.f2 0 Wz (Kd.C_below HD2.out hWz) hC1 hfr
          clear hbl hDd hfr hm0 hgo hd1 hd2 hs
          have c0' : W1.cell? ⟨w.heap.size, 0, none⟩ = some (.slice A0 b.length c0) := blk_cell HH.out.h0 0
          have c6 : W1.cell? ⟨w.heap.size + 1 + 1 + 1 + 1 + 1 + 1, 0, none⟩ = some (.int .i64 at_) := blk_cell HH.out.h6 0
          have c7 : W1.cell? ⟨w.heap.size + 1 + 1 + 1 + 1 + 1 + 1 + 1, 0, none⟩ = some (.int .i64 ((items k s b).length : Int)) := blk_cell HH.out.h7 0
          have c10 : W1.cell? ⟨w.heap.size + 1, 0, none⟩ = some (.int .i64 k) := blk_cell HH.out.h1 0
          have c11 : W1.cell? ⟨w.heap.size + 1, 1, none⟩ = some (.int .i64 s) := blk_cell HH.out.h1 1
          clear hc h0 hy
          gi_wp2_with (refine ⟨trivial, ?_⟩; gi_at_call 8; refine (callsIn_wide.2 (HCHK _)).mono ?_; rintro e W1 ⟨rfl, hb⟩; have n0_ := Aside0.mk (HH.out.step hb (by have := HSZ.out; omega)); have n1_ := Aside0.mk ((hb.block D (blk_lt HDD.out)).trans HDD.out); have n2_ := Aside0.mk (Nat.le_trans HSZ.out hb.size); clear HH HDD HSZ hb c0' c6 c7 c10 c11; have HH := n0_; have HDD := n1_; have HSZ := n2_; clear n0_ n1_ n2_; have c0' : W1.cell? ⟨w.heap.size, 0, none⟩ = some (.slice A0 b.length c0) := blk_cell HH.out.h0 0; have c6 : W1.cell? ⟨w.heap.size + 1 + 1 + 1 + 1 + 1 + 1, 0, none⟩ = some (.int .i64 at_) := blk_cell HH.out.h6 0; have c7 : W1.cell? ⟨w.heap.size + 1 + 1 + 1 + 1 + 1 + 1 + 1, 0, none⟩ = some (.int .i64 ((items k s b).length : Int)) := blk_cell HH.out.h7 0; have c10 : W1.cell? ⟨w.heap.size + 1, 0, none⟩ = some (.int .i64 k) := blk_cell HH.out.h1 0; have c11 : W1.cell? ⟨w.heap.size + 1, 1, none⟩ = some (.int .i64 s) := blk_cell HH.out.h1 1)
          refine wpIn_wide.2 ?_
          have hBr : Below W1.heap.size W1 W1 := Below.refl _ _
          have HZ := Aside0.mk (blk_new W1 (Obj.cells #[Value.int IntKind.i64 0, Value.int IntKind.i64 0, Value.string { data := #[] }] 30))
          go_region_held3 (fun w' => w'.cell? ⟨w.heap.size, 0, none⟩ = some (.slice A0 b.length c0) ∧ w'.cell? ⟨w.heap.size + 1 + 1 + 1 + 1 + 1 + 1, 0, none⟩ = some (.int .i64 at_) ∧ w'.cell? ⟨w.heap.size + 1, 0, none⟩ = some (.int .i64 k) ∧ w'.cell? ⟨w.heap.size + 1, 1, none⟩ = some (.int .i64 s)) (first | (refine PaH.held (HH.out.step (M := W1.heap.size) ?_ (by have := HSZ.out; omega)); repeat (first | exact hBr | exact hBr1 | apply below_drew1 | apply below_alloc | (refine below_set ?_ (by first | exact Nat.le_refl _ | exact hBr.size | exact hBr1.size)))))
            (first | (go_at_call 9; refine (HCALL _ (HH.out.hb.trans (Below.mono (show Below W1.heap.size W1 _ by repeat (first | exact hBr | apply below_drew1 | apply below_alloc)) HH.out.hb.size))).mono ?_; rintro e Wy ⟨rfl, hb⟩; have hBr1 : Below W1.heap.size W1 Wy := below_step (show Below W1.heap.size W1 _ by repeat (first | exact hBr | apply below_drew1 | apply below_alloc)) hb; have hcl := fun (p : Addr) (hp : p.block < _) => hb.cell (p := p) hp; have hfr := fun (p : Addr) (hp : p.block < _) => hb.frozen (p := p) hp))
          all_goals refine exit_named fun Wx hWx => ?_
          all_goals
            have hBX : Below W1.heap.size W1 Wx := by first | (rw [hWx]; exact below_alloc hBr1 _) | (rw [hWx]; exact below_set (below_set (below_set hBr1 (Nat.le_refl _)) (Nat.le_refl _)) (Nat.le_refl _))
            have n0_ := Aside0.mk (HH.out.step hBX (by have := HSZ.out; omega))
            have n1_ := Aside0.mk ((hBX.block D (blk_lt HDD.out)).trans HDD.out)
            have n2_ := Aside0.mk (Nat.le_trans HSZ.out hBX.size)
            clear HH HDD HSZ hWx hBX hb hBr hBr1 HCALL HZ hcl hfr c0' c6 c7 c10 c11 hcut
            have HH := n0_
            have HDD := n1_
            have HSZ := n2_
            clear n0_ n1_ n2_
            gi_wp2
            refine lays_named fun W2 hW2 => ?_
            obtain ⟨gl, hgl⟩ : ∃ gl, gl = Wx.heap.size := ⟨_, rfl⟩
            rw [← hgl]
            have HHf := Aside0.mk (show PaH w A0 b.length c0 k s leave at_ (items k s b).length W2 from (by rw [hW2]; exact HH.out.step (below_alloc (Below.refl _ _) _) (by have := HSZ.out; omega)))
            have hL2 : W2.heap[gl]? = some (.cells #[.int .i64 0] 3 (0, 0)) := by rw [hW2, hgl]; exact blk_new _ _
            have hD2 : W2.heap[D]? = some (.deferred (some [])) := by rw [hW2]; exact (Below.heap_alloc _ _ _ (blk_lt HDD.out)).trans HDD.out
            have hsz2 : W2.heap.size = gl + 1 := by rw [hW2, hgl]; simp only [World.size_alloc]
            have hgl2 : w.heap.size + 10 ≤ gl := by rw [hgl]; exact HSZ.out
            have HI2 := Aside0.mk (show PaI2 w A0 b c0 k s leave at_ D gl [] W2 from ⟨.inl rfl, HHf.out, hL2, hD2⟩)
            have hDr := HDr.out
            have HS2 := Aside0.mk hsz2
            have HGL := Aside0.mk hgl2
            clear hW2 hL2 hD2 HH HSZ HDD hgl HP HCHK
            refine wpIn_rangeFunc_lays0 (encs := encP) (Ab := Below (gl + 3)) (Kp := KeepsBut (fun i => gl ≤ i ∧ i < gl + 3)) (G := itemG k s b) (S := fun xs => xs = items k s b) (Sp := itemP k s b) (N := (items k s b).length) hro h1n (gf := 17) (lb := #[.pointer (some ⟨w.heap.size + 1 + 1 + 1 + 1 + 1, 0, none⟩), .pointer (some ⟨w.heap.size + 1 + 1 + 1 + 1, 0, none⟩)]) rfl trivial (enters_of Try.func17 (by kernel_rfl) rfl)
              ?hseq2 (fun A B h => KeepsTwo.of_below h (by omega)) (fun A => KeepsBut.refl _ A) (fun h k => h.trans k) (fun A B h => KeepsBut.of_turns h (fun i h1 h2 => ⟨by omega, by omega⟩)) (fun _ => rfl)
              (PaI2 w A0 b c0 k s leave at_ D gl) (PaX2 w A0 b c0 k s leave at_ D gl) (fun p A B h hb => h.step hb (by omega) (by omega) (by omega)) (fun c p A B h hb => h.step hb (by omega) (by omega) (by omega))
              (fun p A B h ht => h.step (turns_below ht (Nat.le_refl _)) (by omega) (by omega) (by omega)) (fun c p A B h ht => h.step (turns_below ht (Nat.le_refl _)) (by omega) (by omega) (by omega)) (fun _ _ _ _ h => h)
              (fun o1 o2 => HI2.out.step (below_alloc (below_alloc (Below.refl _ _) _) _) (by omega) (by omega) (by omega)) ?body2 ?done2 ?stop2
            case hseq2 =>
              intro o1 o2
              have h4 := blk_alloc (blk_alloc HHf.out.h4 o1) o2
              have h5 := blk_alloc (blk_alloc HHf.out.h5 o1) o2
              have hb := below_alloc (below_alloc HHf.out.hb o1) o2
              have hs2 : ((W2.alloc o1).alloc o2).heap.size = gl + 3 := by simp only [World.size_alloc]; omega
              have := all1_lays (n - 1) (by have := HN.out; omega) (X := fun i => gl ≤ i ∧ i < gl + 3) (gb := w.heap.size + 4) (gt := w.heap.size + 5) (k := k) (s := s) (A := A0) (c := c0) (b := b) (w0 := w) (W := (W2.alloc o1).alloc o2) ⟨HR0.out, HC0.out, hlen, HU.out, HKw.out, hb, h4, h5, fun i h => (by have := h.1; omega), fun h => (by have := h.1; omega), fun h => (by have := h.1; omega), fun i hi h => (by have := h.2; omega)⟩
              unfold AllLays at this
              rw [hs2] at this
              exact this
            case body2 =>
              rintro l pre x W2 ⟨hlt, hH, hL, hDD⟩ hG hl
              dsimp only [encP]
              have HH := Aside0.mk hH
              have HL := Aside0.mk hL
              have HDD := Aside0.mk hDD
              have Hlt := Aside0.mk hlt
              have cL := blk_cell hL 0
              have fL := blk_frozen hL 0
              have cv := blk_cell hH.h2 0
              have hpl : (pre.length : Int) ≤ 5000 := by have := items_length k s b; omega
              have hwn : IntKind.i64.wrap ((pre.length : Int) + 1) = (pre.length : Int) + 1 := IntWalk.i64_in _ (by omega)
              clear hH hL hDD hlt HI2 HHf hG hl
              have hset : ∀ j, j ≠ gl → (W2.setCell ⟨gl, 0, none⟩ (.int .i64 ((pre.length : Int) + 1))).heap[j]? = W2.heap[j]? := fun j hj => Below.heap_setCell W2 ⟨gl, 0, none⟩ _ j hj
              have hbs : Below gl W2 (W2.setCell ⟨gl, 0, none⟩ (.int .i64 ((pre.length : Int) + 1))) := (Below.refl _ W2).setCell (Nat.le_refl gl) _
              have HSET := Aside0.mk hset
              have HBS := Aside0.mk hbs
              clear hset hbs
              by_cases he : leave ≤ (pre.length : Int) + 1
              · have heb := decide_eq_true he
                gi_wp2
                have hlt := Hlt.out
                refine ⟨keepsTwo_set (KeepsTwo.refl _ _) (by omega) _, KeepsBut.setCell _ _ _ ⟨by omega, by omega⟩, rfl, ?_, ?_, HH.out.step HBS.out (by omega), ?_, (HSET.out D (by omega)).trans HDD.out⟩
                · simp only [List.length_append, List.length_singleton]; omega
                · simp only [List.length_append, List.length_singleton]; omega
                · rw [show ((pre ++ [x]).length : Int) = (pre.length : Int) + 1 by simp]; exact blk_set HL.out 0 _
              · have heb := decide_eq_false he
                gi_wp2
                have hlt := Hlt.out
                refine ⟨keepsTwo_set (KeepsTwo.refl _ _) (by omega) _, KeepsBut.setCell _ _ _ ⟨by omega, by omega⟩, ?_, HH.out.step HBS.out (by omega), ?_, (HSET.out D (by omega)).trans HDD.out⟩
                · simp only [List.length_append, List.length_singleton]; omega
                · rw [show ((pre ++ [x]).length : Int) = (pre.length : Int) + 1 by simp]; exact blk_set HL.out 0 _
            case done2 =>
              rintro D2 xs W3 hD2a hD2b rfl ⟨hlt, hH, hL, hDD⟩ hK2
              have cL := blk_cell hL 0
              have cv := blk_cell hH.h2 0
              have c7 := blk_cell hH.h7 0
              have c3 := blk_cell hH.h3 0
              have f3 := blk_frozen hH.h3 0
              have HH := Aside0.mk hH
              have HDD := Aside0.mk hDD
              have HK2 := Aside0.mk hK2
              clear hH hL hDD hK2 HI2 HHf
              gi_wp2
              all_goals exact pa_end (by first | rfl | (simp only [beq_iff_eq]; omega)) (by omega) (by omega) (by omega) HH.out.h3 HH.out.hb HDD.out HK2.out rfl
            case stop2 =>
              rintro D2 c pre W3 hD2a hD2b ⟨r, hr⟩ ⟨rfl, hlt, hle, hH, hL, hDD⟩ hK2
              have hle2 : pre.length ≤ (items k s b).length := by rw [← hr]; simp
              have cL := blk_cell hL 0
              have cv := blk_cell hH.h2 0
              have c7 := blk_cell hH.h7 0
              have c3 := blk_cell hH.h3 0
              have f3 := blk_frozen hH.h3 0
              have HH := Aside0.mk hH
              have HDD := Aside0.mk hDD
              have HK2 := Aside0.mk hK2
              clear hH hL hDD hK2 HI2 HHf hr
              gi_wp2
              all_goals exact pa_end (by first | rfl | (simp only [beq_iff_eq]; omega)) (by omega) (by omega) (by omega) HH.out.h3 HH.out.hb HDD.out HK2.out rfl
        · have d2 : decide (at_ < (b.length : Int)) = false := decide_eq_false hlt
          have c0' : W1.cell? ⟨w.heap.size, 0, none⟩ = some (.slice A0 b.length c0) := blk_cell HH.out.h0 0
          have c6 : W1.cell? ⟨w.heap.size + 1 + 1 + 1 + 1 + 1 + 1, 0, none⟩ = some (.int .i64 at_) := blk_cell HH.out.h6 0
          have c7 : W1.cell? ⟨w.heap.size + 1 + 1 + 1 + 1 + 1 + 1 + 1, 0, none⟩ = some (.int .i64 ((items k s b).length : Int)) := blk_cell HH.out.h7 0
          have c10 : W1.cell? ⟨w.heap.size + 1, 0, none⟩ = some (.int .i64 k) := blk_cell HH.out.h1 0
          have c11 : W1.cell? ⟨w.heap.size + 1, 1, none⟩ = some (.int .i64 s) := blk_cell HH.out.h1 1
          clear hc h0
          gi_wp2_with (refine ⟨trivial, ?_⟩; gi_at_call 8; refine (callsIn_wide.2 (HCHK _)).mono ?_; rintro e W1 ⟨rfl, hb⟩; have n0_ := Aside0.mk (HH.out.step hb (by have := HSZ.out; omega)); have n1_ := Aside0.mk ((hb.block D (blk_lt HDD.out)).trans HDD.out); have n2_ := Aside0.mk (Nat.le_trans HSZ.out hb.size); clear HH HDD HSZ hb c0' c6 c7 c10 c11; have HH := n0_; have HDD := n1_; have HSZ := n2_; clear n0_ n1_ n2_; have c0' : W1.cell? ⟨w.heap.size, 0, none⟩ = some (.slice A0 b.length c0) := blk_cell HH.out.h0 0; have c6 : W1.cell? ⟨w.heap.size + 1 + 1 + 1 + 1 + 1 + 1, 0, none⟩ = some (.int .i64 at_) := blk_cell HH.out.h6 0; have c7 : W1.cell? ⟨w.heap.size + 1 + 1 + 1 + 1 + 1 + 1 + 1, 0, none⟩ = some (.int .i64 ((items k s b).length : Int)) := blk_cell HH.out.h7 0; have c10 : W1.cell? ⟨w.heap.size + 1, 0, none⟩ = some (.int .i64 k) := blk_cell HH.out.h1 0; have c11 : W1.cell? ⟨w.heap.size + 1, 1, none⟩ = some (.int .i64 s) := blk_cell HH.out.h1 1)
          refine lays_named fun W2 hW2 => ?_
          obtain ⟨gl, hgl⟩ : ∃ gl, gl = W1.heap.size := ⟨_, rfl⟩
          rw [← hgl]
          have HHf := Aside0.mk (show PaH w A0 b.length c0 k s leave at_ (items k s b).length W2 from (by rw [hW2]; exact HH.out.step (below_alloc (Below.refl _ _) _) (by have := HSZ.out; omega)))
          have hL2 : W2.heap[gl]? = some (.cells #[.int .i64 0] 3 (0, 0)) := by rw [hW2, hgl]; exact blk_new _ _
          have hD2 : W2.heap[D]? = some (.deferred (some [])) := by rw [hW2]; exact (Below.heap_alloc _ _ _ (blk_lt HDD.out)).trans HDD.out
          have hsz2 : W2.heap.size = gl + 1 := by rw [hW2, hgl]; simp only [World.size_alloc]
          have hgl2 : w.heap.size + 10 ≤ gl := by rw [hgl]; exact HSZ.out
          have HI2 := Aside0.mk (show PaI2 w A0 b c0 k s leave at_ D gl [] W2 from ⟨.inl rfl, HHf.out, hL2, hD2⟩)
          have hDr := HDr.out
          have HS2 := Aside0.mk hsz2
          have HGL := Aside0.mk hgl2
          clear hW2 hL2 hD2 HH HSZ HDD hgl HP HCHK
          refine wpIn_rangeFunc_lays0 (encs := encP) (Ab := Below (gl + 3)) (Kp := KeepsBut (fun i => gl ≤ i ∧ i < gl + 3)) (G := itemG k s b) (S := fun xs => xs = items k s b) (Sp := itemP k s b) (N := (items k s b).length) hro h1n (gf := 17) (lb := #[.pointer (some ⟨w.heap.size + 1 + 1 + 1 + 1 + 1, 0, none⟩), .pointer (some ⟨w.heap.size + 1 + 1 + 1 + 1, 0, none⟩)]) rfl trivial (enters_of Try.func17 (by kernel_rfl) rfl)
            ?hseq2 (fun A B h => KeepsTwo.of_below h (by omega)) (fun A => KeepsBut.refl _ A) (fun h k => h.trans k) (fun A B h => KeepsBut.of_turns h (fun i h1 h2 => ⟨by omega, by omega⟩)) (fun _ => rfl)
            (PaI2 w A0 b c0 k s leave at_ D gl) (PaX2 w A0 b c0 k s leave at_ D gl) (fun p A B h hb => h.step hb (by omega) (by omega) (by omega)) (fun c p A B h hb => h.step hb (by omega) (by omega) (by omega))
            (fun p A B h ht => h.step (turns_below ht (Nat.le_refl _)) (by omega) (by omega) (by omega)) (fun c p A B h ht => h.step (turns_below ht (Nat.le_refl _)) (by omega) (by omega) (by omega)) (fun _ _ _ _ h => h)
            (fun o1 o2 => HI2.out.step (below_alloc (below_alloc (Below.refl _ _) _) _) (by omega) (by omega) (by omega)) ?body2 ?done2 ?stop2
          case hseq2 =>
            intro o1 o2
            have h4 := blk_alloc (blk_alloc HHf.out.h4 o1) o2
            have h5 := blk_alloc (blk_alloc HHf.out.h5 o1) o2
            have hb := below_alloc (below_alloc HHf.out.hb o1) o2
            have hs2 : ((W2.alloc o1).alloc o2).heap.size = gl + 3 := by simp only [World.size_alloc]; omega
            have := all1_lays (n - 1) (by have := HN.out; omega) (X := fun i => gl ≤ i ∧ i < gl + 3) (gb := w.heap.size + 4) (gt := w.heap.size + 5) (k := k) (s := s) (A := A0) (c := c0) (b := b) (w0 := w) (W := (W2.alloc o1).alloc o2) ⟨HR0.out, HC0.out, hlen, HU.out, HKw.out, hb, h4, h5, fun i h => (by have := h.1; omega), fun h => (by have := h.1; omega), fun h => (by have := h.1; omega), fun i hi h => (by have := h.2; omega)⟩
            unfold AllLays at this
            rw [hs2] at this
            exact this
          case body2 =>
            rintro l pre x W2 ⟨hlt, hH, hL, hDD⟩ hG hl
            dsimp only [encP]
            have HH := Aside0.mk hH
            have HL := Aside0.mk hL
            have HDD := Aside0.mk hDD
            have Hlt := Aside0.mk hlt
            have cL := blk_cell hL 0
            have fL := blk_frozen hL 0
            have cv := blk_cell hH.h2 0
            have hpl : (pre.length : Int) ≤ 5000 := by have := items_length k s b; omega
            have hwn : IntKind.i64.wrap ((pre.length : Int) + 1) = (pre.length : Int) + 1 := IntWalk.i64_in _ (by omega)
            clear hH hL hDD hlt HI2 HHf hG hl
            have hset : ∀ j, j ≠ gl → (W2.setCell ⟨gl, 0, none⟩ (.int .i64 ((pre.length : Int) + 1))).heap[j]? = W2.heap[j]? := fun j hj => Below.heap_setCell W2 ⟨gl, 0, none⟩ _ j hj
            have hbs : Below gl W2 (W2.setCell ⟨gl, 0, none⟩ (.int .i64 ((pre.length : Int) + 1))) := (Below.refl _ W2).setCell (Nat.le_refl gl) _
            have HSET := Aside0.mk hset
            have HBS := Aside0.mk hbs
            clear hset hbs
            by_cases he : leave ≤ (pre.length : Int) + 1
            · have heb := decide_eq_true he
              gi_wp2
              have hlt := Hlt.out
              refine ⟨keepsTwo_set (KeepsTwo.refl _ _) (by omega) _, KeepsBut.setCell _ _ _ ⟨by omega, by omega⟩, rfl, ?_, ?_, HH.out.step HBS.out (by omega), ?_, (HSET.out D (by omega)).trans HDD.out⟩
              · simp only [List.length_append, List.length_singleton]; omega
              · simp only [List.length_append, List.length_singleton]; omega
              · rw [show ((pre ++ [x]).length : Int) = (pre.length : Int) + 1 by simp]; exact blk_set HL.out 0 _
            · have heb := decide_eq_false he
              gi_wp2
              have hlt := Hlt.out
              refine ⟨keepsTwo_set (KeepsTwo.refl _ _) (by omega) _, KeepsBut.setCell _ _ _ ⟨by omega, by omega⟩, ?_, HH.out.step HBS.out (by omega), ?_, (HSET.out D (by omega)).trans HDD.out⟩
              · simp only [List.length_append, List.length_singleton]; omega
              · rw [show ((pre ++ [x]).length : Int) = (pre.length : Int) + 1 by simp]; exact blk_set HL.out 0 _
          case done2 =>
            rintro D2 xs W3 hD2a hD2b rfl ⟨hlt, hH, hL, hDD⟩ hK2
            have cL := blk_cell hL 0
            have cv := blk_cell hH.h2 0
            have c7 := blk_cell hH.h7 0
            have c3 := blk_cell hH.h3 0
            have f3 := blk_frozen hH.h3 0
            have HH := Aside0.mk hH
            have HDD := Aside0.mk hDD
            have HK2 := Aside0.mk hK2
            clear hH hL hDD hK2 HI2 HHf
            gi_wp2
            all_goals exact pa_end (by first | rfl | (simp only [beq_iff_eq]; omega)) (by omega) (by omega) (by omega) HH.out.h3 HH.out.hb HDD.out HK2.out rfl
          case stop2 =>
            rintro D2 c pre W3 hD2a hD2b ⟨r, hr⟩ ⟨rfl, hlt, hle, hH, hL, hDD⟩ hK2
            have hle2 : pre.length ≤ (items k s b).length := by rw [← hr]; simp
            have cL := blk_cell hL 0
            have cv := blk_cell hH.h2 0
            have c7 := blk_cell hH.h7 0
            have c3 := blk_cell hH.h3 0
            have f3 := blk_frozen hH.h3 0
            have HH := Aside0.mk hH
            have HDD := Aside0.mk hDD
            have HK2 := Aside0.mk hK2
            clear hH hL hDD hK2 HI2 HHf hr
            gi_wp2
            all_goals exact pa_end (by first | rfl | (simp only [beq_iff_eq]; omega)) (by omega) (by omega) (by omega) HH.out.h3 HH.out.hb HDD.out HK2.out rfl
    · have hc : chkB k s = false := by simpa using hc
      rw [hc] at HCHK
      have c0' : W1.cell? ⟨w.heap.size, 0, none⟩ = some (.slice A0 b.length c0) := blk_cell HH.out.h0 0
      have c6 : W1.cell? ⟨w.heap.size + 1 + 1 + 1 + 1 + 1 + 1, 0, none⟩ = some (.int .i64 at_) := blk_cell HH.out.h6 0
      have c7 : W1.cell? ⟨w.heap.size + 1 + 1 + 1 + 1 + 1 + 1 + 1, 0, none⟩ = some (.int .i64 ((items k s b).length : Int)) := blk_cell HH.out.h7 0
      have c10 : W1.cell? ⟨w.heap.size + 1, 0, none⟩ = some (.int .i64 k) := blk_cell HH.out.h1 0
      have c11 : W1.cell? ⟨w.heap.size + 1, 1, none⟩ = some (.int .i64 s) := blk_cell HH.out.h1 1
      clear hc
      gi_wp2_with (refine ⟨trivial, ?_⟩; gi_at_call 8; refine (callsIn_wide.2 (HCHK _)).mono ?_; rintro e W1 ⟨rfl, hb⟩; have n0_ := Aside0.mk (HH.out.step hb (by have := HSZ.out; omega)); have n1_ := Aside0.mk ((hb.block D (blk_lt HDD.out)).trans HDD.out); have n2_ := Aside0.mk (Nat.le_trans HSZ.out hb.size); clear HH HDD HSZ hb c0' c6 c7 c10 c11; have HH := n0_; have HDD := n1_; have HSZ := n2_; clear n0_ n1_ n2_; have c0' : W1.cell? ⟨w.heap.size, 0, none⟩ = some (.slice A0 b.length c0) := blk_cell HH.out.h0 0; have c6 : W1.cell? ⟨w.heap.size + 1 + 1 + 1 + 1 + 1 + 1, 0, none⟩ = some (.int .i64 at_) := blk_cell HH.out.h6 0; have c7 : W1.cell? ⟨w.heap.size + 1 + 1 + 1 + 1 + 1 + 1 + 1, 0, none⟩ = some (.int .i64 ((items k s b).length : Int)) := blk_cell HH.out.h7 0; have c10 : W1.cell? ⟨w.heap.size + 1, 0, none⟩ = some (.int .i64 k) := blk_cell HH.out.h1 0; have c11 : W1.cell? ⟨w.heap.size + 1, 1, none⟩ = some (.int .i64 s) := blk_cell HH.out.h1 1)
      refine lays_named fun W2 hW2 => ?_
      obtain ⟨gl, hgl⟩ : ∃ gl, gl = W1.heap.size := ⟨_, rfl⟩
      rw [← hgl]
      have HHf := Aside0.mk (show PaH w A0 b.length c0 k s leave at_ (items k s b).length W2 from (by rw [hW2]; exact HH.out.step (below_alloc (Below.refl _ _) _) (by have := HSZ.out; omega)))
      have hL2 : W2.heap[gl]? = some (.cells #[.int .i64 0] 3 (0, 0)) := by rw [hW2, hgl]; exact blk_new _ _
      have hD2 : W2.heap[D]? = some (.deferred (some [])) := by rw [hW2]; exact (Below.heap_alloc _ _ _ (blk_lt HDD.out)).trans HDD.out
      have hsz2 : W2.heap.size = gl + 1 := by rw [hW2, hgl]; simp only [World.size_alloc]
      have hgl2 : w.heap.size + 10 ≤ gl := by rw [hgl]; exact HSZ.out
      have HI2 := Aside0.mk (show PaI2 w A0 b c0 k s leave at_ D gl [] W2 from ⟨.inl rfl, HHf.out, hL2, hD2⟩)
      have hDr := HDr.out
      have HS2 := Aside0.mk hsz2
      have HGL := Aside0.mk hgl2
      clear hW2 hL2 hD2 HH HSZ HDD hgl HP HCHK
      refine wpIn_rangeFunc_lays0 (encs := encP) (Ab := Below (gl + 3)) (Kp := KeepsBut (fun i => gl ≤ i ∧ i < gl + 3)) (G := itemG k s b) (S := fun xs => xs = items k s b) (Sp := itemP k s b) (N := (items k s b).length) hro h1n (gf := 17) (lb := #[.pointer (some ⟨w.heap.size + 1 + 1 + 1 + 1 + 1, 0, none⟩), .pointer (some ⟨w.heap.size + 1 + 1 + 1 + 1, 0, none⟩)]) rfl trivial (enters_of Try.func17 (by kernel_rfl) rfl)
        ?hseq2 (fun A B h => KeepsTwo.of_below h (by omega)) (fun A => KeepsBut.refl _ A) (fun h k => h.trans k) (fun A B h => KeepsBut.of_turns h (fun i h1 h2 => ⟨by omega, by omega⟩)) (fun _ => rfl)
        (PaI2 w A0 b c0 k s leave at_ D gl) (PaX2 w A0 b c0 k s leave at_ D gl) (fun p A B h hb => h.step hb (by omega) (by omega) (by omega)) (fun c p A B h hb => h.step hb (by omega) (by omega) (by omega))
        (fun p A B h ht => h.step (turns_below ht (Nat.le_refl _)) (by omega) (by omega) (by omega)) (fun c p A B h ht => h.step (turns_below ht (Nat.le_refl _)) (by omega) (by omega) (by omega)) (fun _ _ _ _ h => h)
        (fun o1 o2 => HI2.out.step (below_alloc (below_alloc (Below.refl _ _) _) _) (by omega) (by omega) (by omega)) ?body2 ?done2 ?stop2
      case hseq2 =>
        intro o1 o2
        have h4 := blk_alloc (blk_alloc HHf.out.h4 o1) o2
        have h5 := blk_alloc (blk_alloc HHf.out.h5 o1) o2
        have hb := below_alloc (below_alloc HHf.out.hb o1) o2
        have hs2 : ((W2.alloc o1).alloc o2).heap.size = gl + 3 := by simp only [World.size_alloc]; omega
        have := all1_lays (n - 1) (by have := HN.out; omega) (X := fun i => gl ≤ i ∧ i < gl + 3) (gb := w.heap.size + 4) (gt := w.heap.size + 5) (k := k) (s := s) (A := A0) (c := c0) (b := b) (w0 := w) (W := (W2.alloc o1).alloc o2) ⟨HR0.out, HC0.out, hlen, HU.out, HKw.out, hb, h4, h5, fun i h => (by have := h.1; omega), fun h => (by have := h.1; omega), fun h => (by have := h.1; omega), fun i hi h => (by have := h.2; omega)⟩
        unfold AllLays at this
        rw [hs2] at this
        exact this
      case body2 =>
        rintro l pre x W2 ⟨hlt, hH, hL, hDD⟩ hG hl
        dsimp only [encP]
        have HH := Aside0.mk hH
        have HL := Aside0.mk hL
        have HDD := Aside0.mk hDD
        have Hlt := Aside0.mk hlt
        have cL := blk_cell hL 0
        have fL := blk_frozen hL 0
        have cv := blk_cell hH.h2 0
        have hpl : (pre.length : Int) ≤ 5000 := by have := items_length k s b; omega
        have hwn : IntKind.i64.wrap ((pre.length : Int) + 1) = (pre.length : Int) + 1 := IntWalk.i64_in _ (by omega)
        clear hH hL hDD hlt HI2 HHf hG hl
        have hset : ∀ j, j ≠ gl → (W2.setCell ⟨gl, 0, none⟩ (.int .i64 ((pre.length : Int) + 1))).heap[j]? = W2.heap[j]? := fun j hj => Below.heap_setCell W2 ⟨gl, 0, none⟩ _ j hj
        have hbs : Below gl W2 (W2.setCell ⟨gl, 0, none⟩ (.int .i64 ((pre.length : Int) + 1))) := (Below.refl _ W2).setCell (Nat.le_refl gl) _
        have HSET := Aside0.mk hset
        have HBS := Aside0.mk hbs
        clear hset hbs
        by_cases he : leave ≤ (pre.length : Int) + 1
        · have heb := decide_eq_true he
          gi_wp2
          have hlt := Hlt.out
          refine ⟨keepsTwo_set (KeepsTwo.refl _ _) (by omega) _, KeepsBut.setCell _ _ _ ⟨by omega, by omega⟩, rfl, ?_, ?_, HH.out.step HBS.out (by omega), ?_, (HSET.out D (by omega)).trans HDD.out⟩
          · simp only [List.length_append, List.length_singleton]; omega
          · simp only [List.length_append, List.length_singleton]; omega
          · rw [show ((pre ++ [x]).length : Int) = (pre.length : Int) + 1 by simp]; exact blk_set HL.out 0 _
        · have heb := decide_eq_false he
          gi_wp2
          have hlt := Hlt.out
          refine ⟨keepsTwo_set (KeepsTwo.refl _ _) (by omega) _, KeepsBut.setCell _ _ _ ⟨by omega, by omega⟩, ?_, HH.out.step HBS.out (by omega), ?_, (HSET.out D (by omega)).trans HDD.out⟩
          · simp only [List.length_append, List.length_singleton]; omega
          · rw [show ((pre ++ [x]).length : Int) = (pre.length : Int) + 1 by simp]; exact blk_set HL.out 0 _
      case done2 =>
        rintro D2 xs W3 hD2a hD2b rfl ⟨hlt, hH, hL, hDD⟩ hK2
        have cL := blk_cell hL 0
        have cv := blk_cell hH.h2 0
        have c7 := blk_cell hH.h7 0
        have c3 := blk_cell hH.h3 0
        have f3 := blk_frozen hH.h3 0
        have HH := Aside0.mk hH
        have HDD := Aside0.mk hDD
        have HK2 := Aside0.mk hK2
        clear hH hL hDD hK2 HI2 HHf
        gi_wp2
        all_goals exact pa_end (by first | rfl | (simp only [beq_iff_eq]; omega)) (by omega) (by omega) (by omega) HH.out.h3 HH.out.hb HDD.out HK2.out rfl
      case stop2 =>
        rintro D2 c pre W3 hD2a hD2b ⟨r, hr⟩ ⟨rfl, hlt, hle, hH, hL, hDD⟩ hK2
        have hle2 : pre.length ≤ (items k s b).length := by rw [← hr]; simp
        have cL := blk_cell hL 0
        have cv := blk_cell hH.h2 0
        have c7 := blk_cell hH.h7 0
        have c3 := blk_cell hH.h3 0
        have f3 := blk_frozen hH.h3 0
        have HH := Aside0.mk hH
        have HDD := Aside0.mk hDD
        have HK2 := Aside0.mk hK2
        clear hH hL hDD hK2 HI2 HHf hr
        gi_wp2
        all_goals exact pa_end (by first | rfl | (simp only [beq_iff_eq]; omega)) (by omega) (by omega) (by omega) HH.out.h3 HH.out.hb HDD.out HK2.out rfl
  case stop =>
    rintro D c pre W h1 h2 _ h _
    exact h.elim
end Go.Proofs.Ytcklkngljapecaa.X
end

section
namespace Go.Proofs.Ytcklkngljapecaa.X
open Go.RowKit Go.Proofs.YtcklkngljapecaaW.PrintWords Go.Proofs.YtcklkngljapecaaW.PrintLast Go.Proofs.YtcklkngljapecaaW.PrintMore
attribute [local go_sem] max2_int min2_int max_two min_two max_three min_three max_four min_four
set_option linter.unusedVariables false
set_option linter.unusedSimpArgs false
def paP (K : Nat) (l0 : List Int) (k : Int) : Prop := 30 ≤ K ∧ (∀ x ∈ l0, 0 ≤ x ∧ x ≤ 255) ∧ (Lit.int .i64 k).wf = true
instance (K : Nat) (l0 : List Int) (k : Int) : Decidable (paP K l0 k) := by unfold paP; infer_instance
def marquetrylaw10_PlainAll.f (K : Nat) (l0 : List Int) (a1_0 : Int) (a1_1 : Int) (a2 : Int) : Option Bool := if (l0.length : Int) > 500 then some true else if paP K l0 a1_0 then some true else none
theorem marquetrylaw10_PlainAll.mono : ∀ l0 a1_0 a1_1 a2 K, LeO (marquetrylaw10_PlainAll.f K l0 a1_0 a1_1 a2) (marquetrylaw10_PlainAll.f (K + 1) l0 a1_0 a1_1 a2) := by
 intro l0 a1_0 a1_1 a2 K
 unfold marquetrylaw10_PlainAll.f
 refine LeO.ite (LeO.refl _) ?_
 by_cases c : paP K l0 a1_0
 ·have d : paP (K + 1) l0 a1_0 := ⟨by have := c.1; omega, c.2⟩
  rw [if_pos c, if_pos d]; exact LeO.refl _
 ·rw [if_neg c]; exact LeO.none _
set_option maxHeartbeats 1000000 in
theorem pa_long (A0 : Option Addr) (c0 : Nat) (l0 : List Int) (k s a1 : Int) (w : World) (hc0 : l0.length ≤ c0) (hm : l0.length ≤ 9223372036854775807) (h : (l0.length : Int) > 500) :
  Calls Try.prog 3 #[.slice A0 l0.length c0, .agg #[.int .i64 k, .int .i64 s], .int .i64 a1] w fun e w' => e = .returned (.bool true) ∧ Below w.heap.size w w' := by
 have h1b := decide_eq_true (show 500 < (l0.length : Int) from h)
 have hu25 := Try.underlying25
 clear h
 go_enter Try.func3, Try.ntmps3
 go_wp2
 have c2 : ((((w.alloc (.cells #[.slice A0 l0.length c0] 22)).alloc (.cells #[.int .i64 k, .int .i64 s] 25)).alloc (.cells #[.int .i64 a1] 3)).alloc (.cells #[.bool true] 4)).cell? ⟨w.heap.size + 1 + 1 + 1, 0, none⟩ = some (.bool true) := blk_cell (pa_new _ _ (by simp only [World.size_alloc])) 0
 refine bodyPost_ret (pa_result rfl (by kernel_rfl) rfl c2) rfl ?_
 exact ⟨rfl, below_alloc (below_alloc (below_alloc (below_alloc (Below.refl _ _) _) _) _) _⟩
theorem marquetrylaw10_PlainAll.calls (k : Nat) (A0 : Option Addr) (c0 : Nat) (l0 : List Int) (a1_0 : Int) (a1_1 : Int) (a2 : Int) (r : Bool) (w : World) (hr0 : Kd.C (Kd.int .u8) w A0 l0.length l0) (hc0 : l0.length ≤ c0) (h : marquetrylaw10_PlainAll.f k l0 a1_0 a1_1 a2 = some r) :
  Calls Try.prog 3 #[.slice A0 l0.length c0, .agg #[.int .i64 a1_0, .int .i64 a1_1], .int .i64 a2] w fun e w' => e = .returned (.bool r) ∧ Below w.heap.size w w' := by
 unfold marquetrylaw10_PlainAll.f at h
 by_cases c : (l0.length : Int) > 500
 ·rw [if_pos c] at h
  obtain rfl := Option.some.inj h
  exact pa_long A0 c0 l0 a1_0 a1_1 a2 w hc0 hr0.2.1 c
 ·rw [if_neg c] at h
  by_cases d : paP k l0 a1_0
  ·rw [if_pos d] at h
   obtain rfl := Option.some.inj h
   exact (callsIn_wide (n := 8)).1 (pa_main k d.1 A0 c0 l0 a1_0 a1_1 a2 w hr0 hc0 (by omega) d.2.1 d.2.2 8 (Nat.le_refl _))
  ·rw [if_neg d] at h; exact absurd h (by simp)
def marquetrylaw10_PlainAll.Pure : Prop := ∀ (l0 : List Int) (a1_0 : Int) (a1_1 : Int) (a2 : Int), ((∀ x_ ∈ l0, (Lit.int .u8 x_).wf = true) ∧ l0.length ≤ maxLen ∧ l0.length * 1 ≤ 140737488351232) → (Lit.int .i64 a1_0).wf = true → (Lit.int .i64 a1_1).wf = true → (Lit.int .i64 a2).wf = true → ∃ k, marquetrylaw10_PlainAll.f k l0 a1_0 a1_1 a2 = some true
end Go.Proofs.Ytcklkngljapecaa.X
end

section
namespace Go.Proofs.Ytcklkngljapecaa.Rd
open Go.ChangeShapes Go.WideShapes Go.Deep Go.RowKit Go.Joins Go.Proofs.YtcklkngljapecaaW.PrintWords
structure Opens (P : Program) (t : TypeId) {α : Type} (d : Kd α) (Wf : α → Prop) : Prop where
  opens : ∀ {H : Type} {enc : TypeId × Value → H} {w : World} {base : Nat} {spare : Nat → Bool} {held : Bool} {n : Nat} {cs : List Value} {y : DataW H × List MemPlace},
    DataW.trod enc P w base spare held n t cs = some y → (∀ m ∈ y.1.weights P t, m ≤ reachBytes) → ∃ x, d.K w x cs ∧ Wf x
theorem reach_le {m : Nat} (h : m ≤ reachBytes) : m ≤ 140737488351232 := h
theorem opens_int {P : Program} {t : TypeId} {k : IntKind} (hu : P.underlying t = some (.int k)) : Opens P t (Kd.int k) (fun x => (Lit.int k x).wf = true) := by
  refine ⟨fun {H enc w base spare held n cs y} h _ => ?_⟩
  obtain ⟨x, rfl, _, hw⟩ := DataW.trod_int hu h
  exact ⟨x, rfl, hw⟩
theorem list_of {α : Type} {p : Nat → α → Prop} : ∀ (n : Nat), (∀ i, i < n → ∃ x, p i x) → ∃ xs : List α, xs.length = n ∧ ∀ i x, xs[i]? = some x → p i x
  | 0, _ => ⟨[], rfl, fun i x h => by simp at h⟩
  | n + 1, h => by
    obtain ⟨xs, hl, hx⟩ := list_of n (fun i hi => h i (by omega))
    obtain ⟨x, hp⟩ := h n (by omega)
    refine ⟨xs ++ [x], by simp [hl], fun i y hy => ?_⟩
    rcases Nat.lt_or_ge i xs.length with hi | hi
    · rw [List.getElem?_append_left hi] at hy; exact hx i y hy
    · have hi' : i = xs.length := by
        have := (List.getElem?_eq_some_iff.1 hy).1
        simp at this; omega
      subst hi'
      have : x = y := by simpa using hy
      subst this
      rw [hl]; exact hp
theorem weights_all {H : Type} {P : Program} {e : TypeId} : ∀ (ds : List (DataW H)) (d : DataW H), d ∈ ds → ∀ m ∈ d.weights P e, m ∈ DataW.weightsAll P e ds
  | [], d, h, _, _ => by simp at h
  | d0 :: ds, d, h, m, hm => by
    simp only [DataW.weightsAll, List.mem_append]
    rcases List.mem_cons.1 h with rfl | h
    · exact .inl hm
    · exact .inr (weights_all ds d h m hm)
theorem opens_slice {P : Program} {t e : TypeId} {α : Type} {d : Kd α} {Wf : α → Prop} {B : Nat} (hu : P.underlying t = some (.slice e)) (hsz : P.cellsOf e = d.sz) (hB : P.bytesOf e = B) (ho : Opens P e d Wf) :
    Opens P t (Kd.slice e d) (fun xs => (∀ x ∈ xs, Wf x) ∧ xs.length ≤ maxLen ∧ xs.length * B ≤ 140737488351232) := by
  refine ⟨fun {H enc w base spare held n cs y} h hw => ?_⟩
  rcases open_slice hu h with ⟨rfl, _⟩ | ⟨a, len, cap, m, n', D, Pl, rfl, hb, hl, hm, hmm, rfl, hx⟩
  · exact ⟨[], ⟨none, 0, rfl, Nat.le_refl _, rfl, Nat.zero_le _, fun h => absurd h (by simp)⟩, by simp⟩
  · have hlm : len ≤ m := by rw [hmm]; split <;> omega
    have hsize : len * B ≤ 140737488351232 := by
      have := hw ((((List.range len).map D).length + ((List.range (m - len)).map fun j => D (len + j)).length) * P.bytesOf e) (by simp [DataW.weights, hu])
      rw [hB] at this
      refine Nat.le_trans (Nat.mul_le_mul_right _ ?_) (reach_le this)
      simp
    obtain ⟨xs, hxl, hxs⟩ := list_of (p := fun i x => ∃ cs', w.cells? base (a.add (i * P.cellsOf e)) (P.cellsOf e) = some cs' ∧ d.K w x cs' ∧ Wf x) len (fun i hi => by
      obtain ⟨cs', h1, h2⟩ := hx i (by omega)
      obtain ⟨x, hk, hwf⟩ := ho.opens h2 (fun q hq => hw q (by
        simp only [DataW.weights, hu, List.mem_cons, List.mem_append]
        exact .inr (.inl (weights_all _ (D i) (List.mem_map.2 ⟨i, List.mem_range.2 hi, rfl⟩) q hq))))
      exact ⟨x, cs', h1, hk, hwf⟩)
    subst hxl
    refine ⟨xs, ⟨some a, cap, rfl, hl, rfl, ?_, fun _ => ⟨a, rfl, fun j p hp => ?_⟩⟩, ⟨fun x hx' => ?_, Nat.le_trans hl hm, hsize⟩⟩
    · unfold maxLen at hm; omega
    · obtain ⟨cs', h1, hk, _⟩ := hxs j p hp
      obtain ⟨_, hcl, hcc⟩ := World.cells?_some h1
      refine ⟨cs', by rw [hcl, hsz], hk, fun i u hiu => ?_⟩
      have hi : i < P.cellsOf e := by rw [← hcl]; exact (List.getElem?_eq_some_iff.1 hiu).1
      rw [← hsz, ← Go.Deep.add_add, hcc i hi]
      exact hiu
    · obtain ⟨i, hi⟩ := List.getElem?_of_mem hx'
      exact (hxs i x hi).choose_spec.2.2
theorem weights_each {H : Type} {P : Program} {t : TypeId} {fs : Array Field} {ds : List (DataW H)} (hu : P.underlying t = some (.struct fs)) (hw : ∀ m ∈ (DataW.agg ds).weights P t, m ≤ reachBytes) {j : Nat} {f : Field} {d : DataW H} (hf : fs.toList[j]? = some f) (hd : ds[j]? = some d) :
    ∀ m ∈ d.weights P f.type, m ≤ reachBytes := by
  intro m hm
  refine hw m ?_
  simp only [DataW.weights, hu]
  exact DataW.weights_mem_each (by rw [List.getElem?_map, hf]; rfl) hd m hm
theorem one_of {P : Program} {fs : Array Field} (hone : oneCellFields P fs = true) {j : Nat} {f : Field} (h : fs.toList[j]? = some f) : f.offset = j ∧ P.cellsOf f.type = 1 := hone_of hone j f (by simpa using h)
theorem opens_struct2 {P : Program} {t : TypeId} {f0 f1 : Field} {α β : Type} {d0 : Kd α} {d1 : Kd β} {W0 : α → Prop} {W1 : β → Prop} (hu : P.underlying t = some (.struct #[f0, f1])) (hone : oneCellFields P #[f0, f1] = true) (hC : P.cellsOf t = 2)
    (h0 : Opens P f0.type d0 W0) (h1 : Opens P f1.type d1 W1) : Opens P t (Kd.pair d0 d1) (fun x => W0 x.1 ∧ W1 x.2) := by
  refine ⟨fun {H enc w base spare held n cs y} h hw => ?_⟩
  obtain ⟨y0, y1, m, rfl, hl, e0, e1⟩ := trod_struct2 hu h
  obtain ⟨o0, k0⟩ := one_of hone (j := 0) (f := f0) rfl
  obtain ⟨o1, k1⟩ := one_of hone (j := 1) (f := f1) rfl
  rw [hC] at hl
  match cs, hl with
  | [c0, c1], _ =>
    rw [o0, k0] at e0; rw [o1, k1] at e1
    obtain ⟨x0, q0, z0⟩ := h0.opens e0 (weights_each hu hw (j := 0) rfl rfl)
    obtain ⟨x1, q1, z1⟩ := h1.opens e1 (weights_each hu hw (j := 1) rfl rfl)
    exact ⟨(x0, x1), ⟨[c0], [c1], rfl, q0, q1⟩, z0, z1⟩
theorem opens_arg {P : Program} {t : TypeId} {α : Type} {d : Kd α} {Wf : α → Prop} (ho : Opens P t d Wf) {H : Type} {enc : TypeId × Value → H} {w : World} {base : Nat} {spare : Nat → Bool} {held : Bool} {v : Value} {dt : DataW H} {p : List MemPlace}
    (h : DataW.Trod enc P w base spare held t v dt p) {ts : List TypeId} {ds : List (DataW H)} {j : Nat} (hsz : (DataW.weightsEach P ts ds).all (· ≤ reachBytes) = true) (ht : ts[j]? = some t) (hd : ds[j]? = some dt) : ∃ x, d.K w x v.cells.toList ∧ Wf x := by
  obtain ⟨n, hn⟩ := h
  refine ho.opens hn (fun m hm => ?_)
  have := List.all_eq_true.1 hsz m (DataW.weights_mem_each ht hd m hm)
  simpa using this
end Go.Proofs.Ytcklkngljapecaa.Rd
end
