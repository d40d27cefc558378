/- LevelsBack: texts of this seat in one (wip/merge.py): X17, X18, X19, X41, X47, Bx, Nx, L1, Lw, X35, X37, Ri, Bi, X43, X64, Hy. -/
import Derived.Test.YtpibhiacmceekaaGLevelsBack0
import Derived.Laws.BitsLemmas
import Derived.Laws.Bits64
import Derived.IntWalk
import Derived.RowKit
import Derived.Laws.Rows
import Derived.Laws.CopyOwn
import Derived.StillTailTactics
import Derived.RangeFuncNested
import Derived.RangeFuncBound
import Derived.RangeFuncCalls
import Derived.RangeFuncLeaves
import Derived.RangeFuncFrom
import Derived.RangeFuncWrites
import Derived.RangeFuncBox
import Derived.OrdersIn
import Derived.OwnWalkIn
import Derived.TacticsInMore
import Derived.LoopNIn
import Derived.LoopIn
import Derived.Shelf.Abstract
import Derived.Outline
import Derived.Recover
import Derived.WalkLawsBesides
section
namespace Go.Proofs.Ytpibhiacmceekaa.X
open Go.RowKit Go.Proofs.YtpibhiacmceekaaW.PrintWords Go.Proofs.YtpibhiacmceekaaW.PrintLast Go.Proofs.YtpibhiacmceekaaW.PrintMore
attribute [local go_sem] max2_int min2_int max_two min_two max_three min_three max_four min_four
set_option linter.unusedVariables false
set_option linter.unusedSimpArgs false
mutual
def hybrid_Write.j0 : Nat → Int → List Int → Bool → Option (List Int × Int)
 | 0, _, _, _ => none
 | k + 1, x0, x1, x22 => if x22 = true then (some (([] : List Int), 2)) else (hybrid_Write.l0 k x0 x1 x1 (x1.length : Int) 0)
def hybrid_Write.l0 : Nat → Int → List Int → List Int → Int → Int → Option (List Int × Int)
 | 0, _, _, _, _, _ => none
 | k + 1, x0, x1, x23, x24, x25 => if x25 < x24 then (if 0 ≤ x25 then (if x25 < (x23.length : Int) then (if (rd x23 x25) < 0 then (some (([] : List Int), 2)) else ((bits_Width.f k (IntKind.u64.wrap (rd x23 x25))).bind fun t154 => (if t154 > x0 then (some (([] : List Int), 2)) else (hybrid_Write.l0 k x0 x1 x23 x24 (wrap64 (x25 + 1)))))) else (none)) else (none)) else (if (x1.length : Int) > 65536 then (some (([] : List Int), 3)) else (hybrid_Write.l1 k x0 x1 ([] : List Int)))
def hybrid_Write.l1 : Nat → Int → List Int → List Int → Option (List Int × Int)
 | 0, _, _, _ => none
 | k + 1, x0, x1, x8 => if (x1.length : Int) > 0 then ((hybrid_same.f k x1).bind fun t155 => (if t155 ≥ 8 then ((bits_Varint.f k (IntKind.u64.wrap (wrap64 (2 * t155)))).bind fun t156 => (if x8.length + t156.length < 140737488355328 then ((some (x8 ++ t156 : List Int)).bind fun y159 => (if 0 < (x1.length : Int) then ((bits_Little.f k (IntKind.u64.wrap (rd x1 0)) (wrap64 (Int.tdiv (wrap64 (x0 + 7)) 8))).bind fun bt163 => (if y159.length + bt163.1.length < 140737488355328 then (if 0 ≤ t155 then (if t155 ≤ (x1.length : Int) then (hybrid_Write.l1 k x0 (x1.drop (t155 : Int).toNat) (y159 ++ bt163.1)) else (none)) else (none)) else (none))) else (none))) else (none))) else ((hybrid_packs.f k x1).bind fun t175 => (if 0 ≤ (wrap64 ((wrap64 (Int.tdiv (wrap64 (t175 + 7)) 8)) * 8)) then (if (wrap64 ((wrap64 (Int.tdiv (wrap64 (t175 + 7)) 8)) * 8) : Int).toNat ≤ 35184372088832 then (if 0 ≤ t175 then (if t175 ≤ (x1.length : Int) then ((some (x1.take (t175 : Int).toNat : List Int)).bind fun y179 => (hybrid_Write.l2 k x0 x1 x8 t175 (List.replicate (wrap64 ((wrap64 (Int.tdiv (wrap64 (t175 + 7)) 8)) * 8) : Int).toNat 0) y179 (y179.length : Int) 0)) else (none)) else (none)) else (none)) else (none))))) else (if (x8.length : Int) > 1048576 then (some (([] : List Int), 3)) else (some (x8, 0)))
def hybrid_Write.l2 : Nat → Int → List Int → List Int → Int → List Int → List Int → Int → Int → Option (List Int × Int)
 | 0, _, _, _, _, _, _, _, _ => none
 | k + 1, x0, x1, x8, x9, x12, x81, x82, x83 => if x83 < x82 then (if 0 ≤ x83 then (if x83 < (x81.length : Int) then (if x83 < (x12.length : Int) then (hybrid_Write.l2 k x0 x1 x8 x9 (x12.set (x83 : Int).toNat (IntKind.u64.wrap (rd x81 x83))) x81 x82 (wrap64 (x83 + 1))) else (none)) else (none)) else (none)) else ((bits_Varint.f k (IntKind.u64.wrap (wrap64 ((wrap64 ((wrap64 ((x12.length : Int) / 8)) * 2)) + 1)))).bind fun t186 => (if x8.length + t186.length < 140737488355328 then ((some (x8 ++ t186 : List Int)).bind fun y189 => ((bits_Pack.f k x0 x12).bind fun bt192 => (if y189.length + bt192.1.length < 140737488355328 then (if 0 ≤ x9 then (if x9 ≤ (x1.length : Int) then (hybrid_Write.l1 k x0 (x1.drop (x9 : Int).toNat) (y189 ++ bt192.1)) else (none)) else (none)) else (none)))) else (none)))
end
def hybrid_Write.f (k : Nat) (a0 : Int) (l1 : List Int) : Option (List Int × Int) := if a0 < 0 then (hybrid_Write.j0 k a0 l1 true) else (hybrid_Write.j0 k a0 l1 (decide (a0 > 32)))
theorem hybrid_Write.mono_l : ∀ k, (∀ y0 y1 y2, LeO (hybrid_Write.j0 k y0 y1 y2) (hybrid_Write.j0 (k + 1) y0 y1 y2)) ∧ (∀ y0 y1 y2 y3 y4, LeO (hybrid_Write.l0 k y0 y1 y2 y3 y4) (hybrid_Write.l0 (k + 1) y0 y1 y2 y3 y4)) ∧ (∀ y0 y1 y2, LeO (hybrid_Write.l1 k y0 y1 y2) (hybrid_Write.l1 (k + 1) y0 y1 y2)) ∧ (∀ y0 y1 y2 y3 y4 y5 y6 y7, LeO (hybrid_Write.l2 k y0 y1 y2 y3 y4 y5 y6 y7) (hybrid_Write.l2 (k + 1) y0 y1 y2 y3 y4 y5 y6 y7))
 | 0 => ⟨fun _ _ _ r h => by simp [hybrid_Write.j0] at h, fun _ _ _ _ _ r h => by simp [hybrid_Write.l0] at h, fun _ _ _ r h => by simp [hybrid_Write.l1] at h, fun _ _ _ _ _ _ _ _ r h => by simp [hybrid_Write.l2] at h⟩
 | k + 1 => by
  obtain ⟨ih0, ih1, ih2, ih3⟩ := hybrid_Write.mono_l k
  refine ⟨?_, ?_, ?_, ?_⟩
  ·intro y0 y1 y2
   unfold hybrid_Write.j0
   repeat' first
   | (with_reducible exact ih0 _ _ _)
   | (with_reducible exact ih1 _ _ _ _ _)
   | (with_reducible exact ih2 _ _ _)
   | (with_reducible exact ih3 _ _ _ _ _ _ _ _)
   | (with_reducible exact bits_Little.mono _ _ _)
   | (with_reducible exact bits_Pack.mono _ _ _)
   | (with_reducible exact bits_Varint.mono _ _)
   | (with_reducible exact bits_Width.mono _ _)
   | (with_reducible exact hybrid_packs.mono _ _)
   | (with_reducible exact hybrid_same.mono _ _)
   | (with_reducible exact LeO.refl _)
   | (with_reducible exact LeO.none _)
   | (with_reducible refine LeO.ite ?_ ?_)
   | (with_reducible refine LeO.bind ?_ (fun _ => ?_))
   | exact ih0 _ _ _
   | exact ih1 _ _ _ _ _
   | exact ih2 _ _ _
   | exact ih3 _ _ _ _ _ _ _ _
   | exact bits_Little.mono _ _ _
   | exact bits_Pack.mono _ _ _
   | exact bits_Varint.mono _ _
   | exact bits_Width.mono _ _
   | exact hybrid_packs.mono _ _
   | exact hybrid_same.mono _ _
   | exact LeO.none _
   | refine LeO.ite ?_ ?_
   | refine LeO.bind ?_ (fun _ => ?_)
  ·intro y0 y1 y2 y3 y4
   unfold hybrid_Write.l0
   repeat' first
   | (with_reducible exact ih0 _ _ _)
   | (with_reducible exact ih1 _ _ _ _ _)
   | (with_reducible exact ih2 _ _ _)
   | (with_reducible exact ih3 _ _ _ _ _ _ _ _)
   | (with_reducible exact bits_Little.mono _ _ _)
   | (with_reducible exact bits_Pack.mono _ _ _)
   | (with_reducible exact bits_Varint.mono _ _)
   | (with_reducible exact bits_Width.mono _ _)
   | (with_reducible exact hybrid_packs.mono _ _)
   | (with_reducible exact hybrid_same.mono _ _)
   | (with_reducible exact LeO.refl _)
   | (with_reducible exact LeO.none _)
   | (with_reducible refine LeO.ite ?_ ?_)
   | (with_reducible refine LeO.bind ?_ (fun _ => ?_))
   | exact ih0 _ _ _
   | exact ih1 _ _ _ _ _
   | exact ih2 _ _ _
   | exact ih3 _ _ _ _ _ _ _ _
   | exact bits_Little.mono _ _ _
   | exact bits_Pack.mono _ _ _
   | exact bits_Varint.mono _ _
   | exact bits_Width.mono _ _
   | exact hybrid_packs.mono _ _
   | exact hybrid_same.mono _ _
   | exact LeO.none _
   | refine LeO.ite ?_ ?_
   | refine LeO.bind ?_ (fun _ => ?_)
  ·intro y0 y1 y2
   unfold hybrid_Write.l1
   repeat' first
   | (with_reducible exact ih0 _ _ _)
   | (with_reducible exact ih1 _ _ _ _ _)
   | (with_reducible exact ih2 _ _ _)
   | (with_reducible exact ih3 _ _ _ _ _ _ _ _)
   | (with_reducible exact bits_Little.mono _ _ _)
   | (with_reducible exact bits_Pack.mono _ _ _)
   | (with_reducible exact bits_Varint.mono _ _)
   | (with_reducible exact bits_Width.mono _ _)
   | (with_reducible exact hybrid_packs.mono _ _)
   | (with_reducible exact hybrid_same.mono _ _)
   | (with_reducible exact LeO.refl _)
   | (with_reducible exact LeO.none _)
   | (with_reducible refine LeO.ite ?_ ?_)
   | (with_reducible refine LeO.bind ?_ (fun _ => ?_))
   | exact ih0 _ _ _
   | exact ih1 _ _ _ _ _
   | exact ih2 _ _ _
   | exact ih3 _ _ _ _ _ _ _ _
   | exact bits_Little.mono _ _ _
   | exact bits_Pack.mono _ _ _
   | exact bits_Varint.mono _ _
   | exact bits_Width.mono _ _
   | exact hybrid_packs.mono _ _
   | exact hybrid_same.mono _ _
   | exact LeO.none _
   | refine LeO.ite ?_ ?_
   | refine LeO.bind ?_ (fun _ => ?_)
  ·intro y0 y1 y2 y3 y4 y5 y6 y7
   unfold hybrid_Write.l2
   repeat' first
   | (with_reducible exact ih0 _ _ _)
   | (with_reducible exact ih1 _ _ _ _ _)
   | (with_reducible exact ih2 _ _ _)
   | (with_reducible exact ih3 _ _ _ _ _ _ _ _)
   | (with_reducible exact bits_Little.mono _ _ _)
   | (with_reducible exact bits_Pack.mono _ _ _)
   | (with_reducible exact bits_Varint.mono _ _)
   | (with_reducible exact bits_Width.mono _ _)
   | (with_reducible exact hybrid_packs.mono _ _)
   | (with_reducible exact hybrid_same.mono _ _)
   | (with_reducible exact LeO.refl _)
   | (with_reducible exact LeO.none _)
   | (with_reducible refine LeO.ite ?_ ?_)
   | (with_reducible refine LeO.bind ?_ (fun _ => ?_))
   | exact ih0 _ _ _
   | exact ih1 _ _ _ _ _
   | exact ih2 _ _ _
   | exact ih3 _ _ _ _ _ _ _ _
   | exact bits_Little.mono _ _ _
   | exact bits_Pack.mono _ _ _
   | exact bits_Varint.mono _ _
   | exact bits_Width.mono _ _
   | exact hybrid_packs.mono _ _
   | exact hybrid_same.mono _ _
   | exact LeO.none _
   | refine LeO.ite ?_ ?_
   | refine LeO.bind ?_ (fun _ => ?_)
theorem hybrid_Write.mono : ∀ a0 a1 k, LeO (hybrid_Write.f k a0 a1) (hybrid_Write.f (k + 1) a0 a1) := by
 intro a0 a1 k
 obtain ⟨ih0, ih1, ih2, ih3⟩ := hybrid_Write.mono_l k
 unfold hybrid_Write.f
 repeat' first
   | (with_reducible exact ih0 _ _ _)
   | (with_reducible exact ih1 _ _ _ _ _)
   | (with_reducible exact ih2 _ _ _)
   | (with_reducible exact ih3 _ _ _ _ _ _ _ _)
   | (with_reducible exact bits_Little.mono _ _ _)
   | (with_reducible exact bits_Pack.mono _ _ _)
   | (with_reducible exact bits_Varint.mono _ _)
   | (with_reducible exact bits_Width.mono _ _)
   | (with_reducible exact hybrid_packs.mono _ _)
   | (with_reducible exact hybrid_same.mono _ _)
   | (with_reducible exact LeO.refl _)
   | (with_reducible exact LeO.none _)
   | (with_reducible refine LeO.ite ?_ ?_)
   | (with_reducible refine LeO.bind ?_ (fun _ => ?_))
   | exact ih0 _ _ _
   | exact ih1 _ _ _ _ _
   | exact ih2 _ _ _
   | exact ih3 _ _ _ _ _ _ _ _
   | exact bits_Little.mono _ _ _
   | exact bits_Pack.mono _ _ _
   | exact bits_Varint.mono _ _
   | exact bits_Width.mono _ _
   | exact hybrid_packs.mono _ _
   | exact hybrid_same.mono _ _
   | exact LeO.none _
   | refine LeO.ite ?_ ?_
   | refine LeO.bind ?_ (fun _ => ?_)
set_option maxHeartbeats 8000000 in
set_option maxRecDepth 100000 in
theorem hybrid_Write.calls (k : Nat) (a0 : Int) (P1_ : Nat → Prop) (A1 : Option Addr) (c1 : Nat) (l1 : List Int) (r1 : List Int) (r2 : Int) (w : World) (hs1 : Kd.V (Kd.int .i64) 3 w w.heap.size (fun k_ => P1_ k_) (.slice A1 l1.length c1) l1) (h : hybrid_Write.f k a0 l1 = some (r1, r2)) :
  Calls Try.prog 18 #[.int .i64 a0, .slice A1 l1.length c1] w fun e w' => ∃ v0_ : Value, e = .returned (.tuple #[v0_, .int .i64 r2]) ∧ Kd.R (Kd.int .u8) 5 w' w.heap.size (fun k_ => (w.heap.size ≤ k_)) v0_ r1 ∧ Below w.heap.size w w' := by
 have HO1 := Aside0.mk (show Kd.V (Kd.int .i64) 3 w w.heap.size (fun k_ => (P1_ k_ ∨ w.heap.size ≤ k_)) (.slice A1 l1.length c1) l1 from Kd.V_mono hs1 (fun k_ hk => .inl hk))
 have HB := Aside0.mk (Below.refl w.heap.size w)
 have H : (if a0 < 0 then (hybrid_Write.j0 k a0 l1 true) else (hybrid_Write.j0 k a0 l1 (decide (a0 > 32)))) = some (r1, r2) := h
 clear h
 have HC3 := Aside0.mk H
 clear H
 go_enter Try.func18, Try.ntmps18
 go_upto_region 1 with (fail)
 go_cut [22] (fun v22 wc => ∃ (kq : Nat) (x22_2 : Bool), v22 = .bool x22_2 ∧ Aside0 (hybrid_Write.j0 kq a0 l1 x22_2 = some (r1, r2)) ∧ Aside0 (kq ≤ k) ∧ Aside0 (Kd.V (Kd.int .i64) 3 wc w.heap.size (fun k_ => (P1_ k_ ∨ w.heap.size ≤ k_)) (.slice A1 l1.length c1) l1) ∧ Aside0 (Below w.heap.size w wc))
 case first =>
  have H := HC3.out
  clear HC3
  by_cases c4 : a0 < 0
  ·rw [if_pos c4] at H
   have c4b0 : decide (a0 < 0) = true := decide_eq_true c4
   clear c4
   (first | rw [c4b0] | (simp only [i64_w, i32_w]; rw [c4b0]) | skip)
   have H' := Aside0.mk H
   clear H
   go_wp2
   go_meet
   case rel => exact ⟨_, (true), (by first | rfl | (simp; done) | (simp [*]; done)), H', ⟨by first | omega | exact Nat.le_refl _⟩, ⟨by (with_reducible repeat (first | apply Kd.V_alloc | apply Kd.V_drewN | apply Kd.V_drew)); exact HO1.out⟩, ⟨by repeat (first | (with_reducible first | exact HB.out | apply below_alloc | apply pw_below_drewN | apply below_drew1) | exact HB.out)⟩⟩
  ·rw [if_neg c4] at H
   have c4b0 : decide (a0 < 0) = false := decide_eq_false c4
   clear c4
   (first | rw [c4b0] | (simp only [i64_w, i32_w]; rw [c4b0]) | skip)
   have H' := Aside0.mk H
   clear H
   go_wp2
   go_meet
   case rel => exact ⟨_, (decide (a0 > 32)), (by first | rfl | (simp; done) | (simp [*]; done)), H', ⟨by first | omega | exact Nat.le_refl _⟩, ⟨by (with_reducible repeat (first | apply Kd.V_alloc | apply Kd.V_drewN | apply Kd.V_drew)); exact HO1.out⟩, ⟨by repeat (first | (with_reducible first | exact HB.out | apply below_alloc | apply pw_below_drewN | apply below_drew1) | exact HB.out)⟩⟩
 case rest =>
  clear HC3
  try clear c1
  try clear p2
  try clear c4
  try clear c4b0
  obtain ⟨kq, x22_2, rfl, HA, HJ2, HO_1, HB⟩ := hcut
  cases kq with
  | zero => exact absurd HA.out (by simp [hybrid_Write.j0])
  | succ kj2 =>
   have H := HA.out
   clear HA
   simp only [hybrid_Write.j0] at H
   by_cases c5 : x22_2 = true
   ·subst c5
    have H1 : (some (([] : List Int), 2)) = some (r1, r2) := by rw [if_pos rfl] at H; exact H
    clear H
    have H := H1
    clear H1
    simp only [Option.some.injEq, Prod.mk.injEq] at H
    obtain ⟨rfl, rfl⟩ := H
    go_wp2
    go_ret2
    exact ⟨_, by first | rfl | (simp [errW_none, errW_some] <;> rfl) | (simp [*, errW_none, errW_some] <;> rfl), by first | exact Kd.R_nil _ _ _ _ _ | exact Kd.N_nil _ _ _ _ _ | exact Kd.V_nil _ _ _ _ _ | exact Kd.Q_nil _ _ _ _ _ | exact Kd.S_nil _ _ _ _ _, by repeat (first | (with_reducible first | exact HB.out | apply below_alloc | apply pw_below_drewN | apply below_drew1) | exact HB.out)⟩
   ·replace c5 := Bool.eq_false_iff.mpr c5
    subst c5
    have H1 : (hybrid_Write.l0 kj2 a0 l1 l1 (l1.length : Int) 0) = some (r1, r2) := by rw [if_neg (show ¬ (false = true) by decide)] at H; exact H
    clear H
    have H := H1
    clear H1
    have H' := Aside0.mk H
    clear H
    go_wp2
    go_loopg [25] kj2 (fun kq v25 w' => ∃ (x25_2 : Int), v25 = .int .i64 x25_2 ∧ Aside0 (hybrid_Write.l0 kq a0 l1 l1 (l1.length : Int) x25_2 = some (r1, r2)) ∧ Aside0 (kq ≤ kj2) ∧ Aside0 (Kd.V (Kd.int .i64) 3 w' w.heap.size (fun k_ => (P1_ k_ ∨ w.heap.size ≤ k_)) (.slice A1 l1.length c1) l1) ∧ Aside0 (Kd.V (Kd.int .i64) 3 w' w.heap.size (fun k_ => (P1_ k_ ∨ w.heap.size ≤ k_)) (.slice A1 l1.length c1) l1) ∧ Aside0 (Below w.heap.size w w'))
    case atStart => exact ⟨(0), (by first | rfl | (simp; done) | (simp [*]; done)), H', ⟨Nat.le_refl _⟩, ⟨by (with_reducible repeat (first | apply Kd.V_alloc | apply Kd.V_drewN | apply Kd.V_drew)); exact HO_1.out⟩, ⟨by (with_reducible repeat (first | apply Kd.V_alloc | apply Kd.V_drewN | apply Kd.V_drew)); exact HO_1.out⟩, ⟨by repeat (first | (with_reducible first | exact HB.out | apply below_alloc | apply pw_below_drewN | apply below_drew1) | exact HB.out)⟩⟩
    case round =>
     clear H'
     try clear c1
     try clear p2
     try clear c4
     try clear c4b0
     try clear c5
     try clear p2
     obtain ⟨x25_2, rfl, HA, HK2, HO_1, HO_23, HB⟩ := hrel
     cases gk with
     | zero => exact absurd HA.out (by simp [hybrid_Write.l0])
     | succ k2 =>
      have H := HA.out
      clear HA
      simp only [hybrid_Write.l0] at H
      by_cases c6 : x25_2 < (l1.length : Int)
      ·rw [if_pos c6] at H
       have c6b0 : decide (x25_2 < (l1.length : Int)) = true := decide_eq_true c6
       clear c6
       by_cases c7 : 0 ≤ x25_2
       ·rw [if_pos c7] at H
        have c7b0 : decide (0 ≤ x25_2) = true := decide_eq_true c7
        clear c7
        by_cases c8 : x25_2 < (l1.length : Int)
        ·rw [if_pos c8] at H
         have c8b0 : decide (x25_2 < (l1.length : Int)) = true := decide_eq_true c8
         clear c8
         by_cases c9 : (rd l1 x25_2) < 0
         ·rw [if_pos c9] at H
          have c9b0 : decide ((rd l1 x25_2) < 0) = true := decide_eq_true c9
          clear c9
          simp only [Option.some.injEq, Prod.mk.injEq] at H
          obtain ⟨rfl, rfl⟩ := H
          have p153 : 0 ≤ (x25_2 : Int) := of_decide_eq_true (by first | (with_reducible assumption) | assumption)
          have q153 : x25_2 < (l1.length : Int) := of_decide_eq_true (by first | (with_reducible assumption) | assumption)
          obtain ⟨ad153, e153, hx153_0⟩ := Kd.at_int (Kd.V_reads' HO_23.out).2.2 x25_2 p153 q153
          cases e153
          replace p153 := eq_true p153
          replace q153 := eq_true q153
          go_wp2
          go_ret2
          exact ⟨_, by first | rfl | (simp [errW_none, errW_some] <;> rfl) | (simp [*, errW_none, errW_some] <;> rfl), by first | exact Kd.R_nil _ _ _ _ _ | exact Kd.N_nil _ _ _ _ _ | exact Kd.V_nil _ _ _ _ _ | exact Kd.Q_nil _ _ _ _ _ | exact Kd.S_nil _ _ _ _ _, by repeat (first | (with_reducible first | exact HB.out | apply below_alloc | apply pw_below_drewN | apply below_drew1) | exact HB.out)⟩
         ·rw [if_neg c9] at H
          have c9b0 : decide ((rd l1 x25_2) < 0) = false := decide_eq_false c9
          clear c9
          replace H := Option.bind_eq_some_iff.mp H
          obtain ⟨t154, A100, H⟩ := H
          replace H : (if t154 > a0 then (some (([] : List Int), 2)) else (hybrid_Write.l0 k2 a0 l1 l1 (l1.length : Int) (wrap64 (x25_2 + 1)))) = some (r1, r2) := H
          have A10 := Aside0.mk A100
          clear A100
          by_cases c11 : t154 > a0
          ·rw [if_pos c11] at H
           have c11b0 : decide (a0 < t154) = true := decide_eq_true c11
           clear c11
           simp only [Option.some.injEq, Prod.mk.injEq] at H
           obtain ⟨rfl, rfl⟩ := H
           have p153 : 0 ≤ (x25_2 : Int) := of_decide_eq_true (by first | (with_reducible assumption) | assumption)
           have q153 : x25_2 < (l1.length : Int) := of_decide_eq_true (by first | (with_reducible assumption) | assumption)
           obtain ⟨ad153, e153, hx153_0⟩ := Kd.at_int (Kd.V_reads' HO_23.out).2.2 x25_2 p153 q153
           cases e153
           replace p153 := eq_true p153
           replace q153 := eq_true q153
           go_wp2_with (first | (go_at_call 36; (with_reducible refine (bits_Width.calls k2 (IntKind.u64.wrap (rd l1 x25_2)) t154 _ A10.out).mono ?_); rintro e w' ⟨rfl, ⟨nd, rfl⟩⟩))
           go_ret2
           exact ⟨_, by first | rfl | (simp [errW_none, errW_some] <;> rfl) | (simp [*, errW_none, errW_some] <;> rfl), by first | exact Kd.R_nil _ _ _ _ _ | exact Kd.N_nil _ _ _ _ _ | exact Kd.V_nil _ _ _ _ _ | exact Kd.Q_nil _ _ _ _ _ | exact Kd.S_nil _ _ _ _ _, by repeat (first | (with_reducible first | exact HB.out | apply below_alloc | apply pw_below_drewN | apply below_drew1) | exact HB.out)⟩
          ·rw [if_neg c11] at H
           have c11b0 : decide (a0 < t154) = false := decide_eq_false c11
           clear c11
           have H' := Aside0.mk H
           clear H
           have p153 : 0 ≤ (x25_2 : Int) := of_decide_eq_true (by first | (with_reducible assumption) | assumption)
           have q153 : x25_2 < (l1.length : Int) := of_decide_eq_true (by first | (with_reducible assumption) | assumption)
           obtain ⟨ad153, e153, hx153_0⟩ := Kd.at_int (Kd.V_reads' HO_23.out).2.2 x25_2 p153 q153
           cases e153
           replace p153 := eq_true p153
           replace q153 := eq_true q153
           go_wp2_with (first | (go_at_call 36; (with_reducible refine (bits_Width.calls k2 (IntKind.u64.wrap (rd l1 x25_2)) t154 _ A10.out).mono ?_); rintro e w' ⟨rfl, ⟨nd, rfl⟩⟩))
           go_roundg k2
           case measure => have := HJ2.out; have := HK2.out; omega
           case rel => exact ⟨(wrap64 (x25_2 + 1)), (by first | rfl | (simp; done) | (simp [*]; done)), H', ⟨by have := HJ2.out; have := HK2.out; omega⟩, ⟨by (with_reducible repeat (first | apply Kd.V_alloc | apply Kd.V_drewN | apply Kd.V_drew)); exact HO_1.out⟩, ⟨by (with_reducible repeat (first | apply Kd.V_alloc | apply Kd.V_drewN | apply Kd.V_drew)); exact HO_23.out⟩, ⟨by repeat (first | (with_reducible first | exact HB.out | apply below_alloc | apply pw_below_drewN | apply below_drew1) | exact HB.out)⟩⟩
        ·rw [if_neg c8] at H
         exact absurd H (by simp)
       ·rw [if_neg c7] at H
        exact absurd H (by simp)
      ·rw [if_neg c6] at H
       have c6b0 : decide (x25_2 < (l1.length : Int)) = false := decide_eq_false c6
       clear c6
       by_cases c12 : (l1.length : Int) > 65536
       ·rw [if_pos c12] at H
        have c12b0 : decide (65536 < (l1.length : Int)) = true := decide_eq_true c12
        have c12b1 : decide (65536 < l1.length) = true := decide_eq_true (by omega)
        clear c12
        simp only [Option.some.injEq, Prod.mk.injEq] at H
        obtain ⟨rfl, rfl⟩ := H
        go_wp2
        go_ret2
        exact ⟨_, by first | rfl | (simp [errW_none, errW_some] <;> rfl) | (simp [*, errW_none, errW_some] <;> rfl), by first | exact Kd.R_nil _ _ _ _ _ | exact Kd.N_nil _ _ _ _ _ | exact Kd.V_nil _ _ _ _ _ | exact Kd.Q_nil _ _ _ _ _ | exact Kd.S_nil _ _ _ _ _, by repeat (first | (with_reducible first | exact HB.out | apply below_alloc | apply pw_below_drewN | apply below_drew1) | exact HB.out)⟩
       ·rw [if_neg c12] at H
        have c12b0 : decide (65536 < (l1.length : Int)) = false := decide_eq_false c12
        have c12b1 : decide (65536 < l1.length) = false := decide_eq_false (by omega)
        clear c12
        have H' := Aside0.mk H
        clear H
        go_wp2
        go_loopg [1, 8] k2 (fun kq v1 v8 w' => ∃ (x1_3 : List Int) (x8_3 : List Int), Aside0 (hybrid_Write.l1 kq a0 x1_3 x8_3 = some (r1, r2)) ∧ Aside0 (kq ≤ k2) ∧ Aside0 (Kd.V (Kd.int .i64) 3 w' w.heap.size (fun k_ => (P1_ k_ ∨ w.heap.size ≤ k_) ∧ some k_ ≠ (v8 : Value).ownBlock) v1 x1_3) ∧ Aside0 (Kd.R (Kd.int .u8) 5 w' w.heap.size (fun k_ => (w.heap.size ≤ k_)) v8 x8_3) ∧ Aside0 (Below w.heap.size w w'))
        case atStart => exact ⟨(l1), (([] : List Int)), H', ⟨Nat.le_refl _⟩, ⟨by (with_reducible repeat (first | apply Kd.V_alloc | apply Kd.V_drewN | apply Kd.V_drew)); exact Kd.V_mono HO_1.out (fun _ hk => ⟨hk, (by simp [Value.ownBlock])⟩)⟩, ⟨by first | exact Kd.R_nil _ _ _ _ _ | exact Kd.N_nil _ _ _ _ _ | exact Kd.V_nil _ _ _ _ _ | exact Kd.Q_nil _ _ _ _ _ | exact Kd.S_nil _ _ _ _ _⟩, ⟨by repeat (first | (with_reducible first | exact HB.out | apply below_alloc | apply pw_below_drewN | apply below_drew1) | exact HB.out)⟩⟩
        case round =>
         clear H'
         try clear c1
         try clear p1
         try clear q1
         try clear hx1
         try clear p2
         try clear c4
         try clear c4b0
         try clear c5
         try clear c6
         try clear c6b0
         try clear p6
         try clear c7
         try clear c7b0
         try clear c8
         try clear c8b0
         try clear c9
         try clear c9b0
         try clear c11
         try clear c11b0
         try clear c12
         try clear c12b0
         try clear c12b1
         try clear hx153_0
         try clear p153
         try clear p2
         try clear q153
         obtain ⟨x1_3, x8_3, HA, HK3, HO_1, HO_8, HB⟩ := hrel
         cases gk with
         | zero => exact absurd HA.out (by simp [hybrid_Write.l1])
         | succ k3 =>
          have H := HA.out
          clear HA
          simp only [hybrid_Write.l1] at H
          by_cases c13 : (x1_3.length : Int) > 0
          ·rw [if_pos c13] at H
           have c13b0 : decide (0 < (x1_3.length : Int)) = true := decide_eq_true c13
           have c13b1 : decide (0 < x1_3.length) = true := decide_eq_true (by omega)
           clear c13
           replace H := Option.bind_eq_some_iff.mp H
           obtain ⟨t155, A140, H⟩ := H
           replace H : (if t155 ≥ 8 then ((bits_Varint.f k3 (IntKind.u64.wrap (wrap64 (2 * t155)))).bind fun t156 => (if x8_3.length + t156.length < 140737488355328 then ((some (x8_3 ++ t156 : List Int)).bind fun y159 => (if 0 < (x1_3.length : Int) then ((bits_Little.f k3 (IntKind.u64.wrap (rd x1_3 0)) (wrap64 (Int.tdiv (wrap64 (a0 + 7)) 8))).bind fun bt163 => (if y159.length + bt163.1.length < 140737488355328 then (if 0 ≤ t155 then (if t155 ≤ (x1_3.length : Int) then (hybrid_Write.l1 k3 a0 (x1_3.drop (t155 : Int).toNat) (y159 ++ bt163.1)) else (none)) else (none)) else (none))) else (none))) else (none))) else ((hybrid_packs.f k3 x1_3).bind fun t175 => (if 0 ≤ (wrap64 ((wrap64 (Int.tdiv (wrap64 (t175 + 7)) 8)) * 8)) then (if (wrap64 ((wrap64 (Int.tdiv (wrap64 (t175 + 7)) 8)) * 8) : Int).toNat ≤ 35184372088832 then (if 0 ≤ t175 then (if t175 ≤ (x1_3.length : Int) then ((some (x1_3.take (t175 : Int).toNat : List Int)).bind fun y179 => (hybrid_Write.l2 k3 a0 x1_3 x8_3 t175 (List.replicate (wrap64 ((wrap64 (Int.tdiv (wrap64 (t175 + 7)) 8)) * 8) : Int).toNat 0) y179 (y179.length : Int) 0)) else (none)) else (none)) else (none)) else (none)))) = some (r1, r2) := H
           have A14 := Aside0.mk A140
           clear A140
           by_cases c15 : t155 ≥ 8
           ·rw [if_pos c15] at H
            have c15b0 : decide (8 ≤ t155) = true := decide_eq_true c15
            clear c15
            replace H := Option.bind_eq_some_iff.mp H
            obtain ⟨t156, A160, H⟩ := H
            replace H : (if x8_3.length + t156.length < 140737488355328 then ((some (x8_3 ++ t156 : List Int)).bind fun y159 => (if 0 < (x1_3.length : Int) then ((bits_Little.f k3 (IntKind.u64.wrap (rd x1_3 0)) (wrap64 (Int.tdiv (wrap64 (a0 + 7)) 8))).bind fun bt163 => (if y159.length + bt163.1.length < 140737488355328 then (if 0 ≤ t155 then (if t155 ≤ (x1_3.length : Int) then (hybrid_Write.l1 k3 a0 (x1_3.drop (t155 : Int).toNat) (y159 ++ bt163.1)) else (none)) else (none)) else (none))) else (none))) else (none)) = some (r1, r2) := H
            have A16 := Aside0.mk A160
            clear A160
            by_cases c17 : x8_3.length + t156.length < 140737488355328
            ·rw [if_pos c17] at H
             have LMc17 := Aside0.mk c17
             clear c17
             obtain ⟨y159, hy159⟩ : ∃ y_ : List Int, y_ = (x8_3 ++ t156) := ⟨_, rfl⟩
             replace H : (if 0 < (x1_3.length : Int) then ((bits_Little.f k3 (IntKind.u64.wrap (rd x1_3 0)) (wrap64 (Int.tdiv (wrap64 (a0 + 7)) 8))).bind fun bt163 => (if y159.length + bt163.1.length < 140737488355328 then (if 0 ≤ t155 then (if t155 ≤ (x1_3.length : Int) then (hybrid_Write.l1 k3 a0 (x1_3.drop (t155 : Int).toNat) (y159 ++ bt163.1)) else (none)) else (none)) else (none))) else (none)) = some (r1, r2) := by first | (rw [hy159]; with_reducible exact H) | (have H2_ := (Option.bind_some _ _).symm.trans H; rw [hy159]; with_reducible exact H2_) | (have H2_ := (Option.bind_some _ _).symm.trans H; with_reducible exact H2_) | with_reducible exact H | (rw [hy159]; exact H) | exact H
             have Ny159 := Aside0.mk hy159
             clear hy159
             by_cases c18 : 0 < (x1_3.length : Int)
             ·rw [if_pos c18] at H
              have c18b0 : decide (0 < (x1_3.length : Int)) = true := decide_eq_true c18
              have c18b1 : decide (0 < x1_3.length) = true := decide_eq_true (by omega)
              clear c18
              replace H := Option.bind_eq_some_iff.mp H
              obtain ⟨⟨t163, t164⟩, A190, H⟩ := H
              replace H : (if y159.length + t163.length < 140737488355328 then (if 0 ≤ t155 then (if t155 ≤ (x1_3.length : Int) then (hybrid_Write.l1 k3 a0 (x1_3.drop (t155 : Int).toNat) (y159 ++ t163)) else (none)) else (none)) else (none)) = some (r1, r2) := H
              have A19 := Aside0.mk A190
              clear A190
              by_cases c20 : y159.length + t163.length < 140737488355328
              ·rw [if_pos c20] at H
               have LMc20 := Aside0.mk c20
               clear c20
               obtain ⟨y167, hy167⟩ : ∃ y_ : List Int, y_ = (y159 ++ t163) := ⟨_, rfl⟩
               replace H : (if 0 ≤ t155 then (if t155 ≤ (x1_3.length : Int) then (hybrid_Write.l1 k3 a0 (x1_3.drop (t155 : Int).toNat) y167) else (none)) else (none)) = some (r1, r2) := by first | (rw [hy167]; with_reducible exact H) | (have H2_ := (Option.bind_some _ _).symm.trans H; rw [hy167]; with_reducible exact H2_) | (have H2_ := (Option.bind_some _ _).symm.trans H; with_reducible exact H2_) | with_reducible exact H | (rw [hy167]; exact H) | exact H
               have Ny167 := Aside0.mk hy167
               clear hy167
               by_cases c21 : 0 ≤ t155
               ·rw [if_pos c21] at H
                have c21b0 := eq_true c21
                have c21b1 : decide (0 ≤ t155) = true := decide_eq_true c21
                clear c21
                by_cases c22 : t155 ≤ (x1_3.length : Int)
                ·rw [if_pos c22] at H
                 have c22b0 := eq_true c22
                 have c22b1 : decide (t155 ≤ (x1_3.length : Int)) = true := decide_eq_true c22
                 clear c22
                 obtain ⟨y170, hy170⟩ : ∃ y_ : List Int, y_ = (x1_3.drop (t155 : Int).toNat) := ⟨_, rfl⟩
                 replace H : (hybrid_Write.l1 k3 a0 y170 y167) = some (r1, r2) := by first | (rw [hy170]; with_reducible exact H) | (have H2_ := (Option.bind_some _ _).symm.trans H; rw [hy170]; with_reducible exact H2_) | (have H2_ := (Option.bind_some _ _).symm.trans H; with_reducible exact H2_) | with_reducible exact H | (rw [hy170]; exact H) | exact H
                 have Ny170 := Aside0.mk hy170
                 clear hy170
                 have H' := Aside0.mk H
                 clear H
                 obtain ⟨Ao23, co23, eo23⟩ := Kd.V_slice HO_1.out
                 subst eo23
                 go_wp2_with (first | ((with_reducible refine gate_callee (f := 37) rfl ?_); refine goesL_ (some 46) rfl rfl Try.func37 (by kernel_rfl) rfl #[.slice Ao23 x1_3.length co23] rfl (by (try simp only [List.map_toArray, List.map_cons, List.map_nil]); first | done | rfl | (simp only [List.length_drop, List.length_take]; rfl)) ?_; (with_reducible refine (hybrid_same.calls k3 _ _ x1_3 t155 _ ?side1 ?side2 A14.out).mono ?_); (case side1 => repeat (first | exact (Kd.V_reads' HO_1.out).2.2 | (with_reducible refine Kd.C_alloc ?_ _) | (with_reducible refine Kd.C_drewN ?_ _) | (with_reducible refine Kd.C_drew ?_))); (case side2 => exact (Kd.V_reads' HO_1.out).2.1); rintro e w' ⟨rfl, ⟨nd, rfl⟩⟩; refine ⟨_, rfl, ?_⟩) | ((with_reducible refine gate_callee (f := 38) rfl ?_); refine goesL_ (some 53) rfl rfl Try.func38 (by kernel_rfl) rfl #[.int .u64 (IntKind.u64.wrap (wrap64 (2 * t155)))] rfl (by (try simp only [List.map_toArray, List.map_cons, List.map_nil]); first | done | rfl | (simp only [List.length_drop, List.length_take]; rfl)) ?_; (with_reducible refine (bits_Varint.calls k3 (IntKind.u64.wrap (wrap64 (2 * t155))) t156 _ A16.out).mono ?_); rintro e w24 ⟨v157, rfl, ho0, hb⟩; refine ⟨_, rfl, ?_⟩; have n0_ := Aside0.mk (Kd.V_elder' (by (with_reducible repeat (first | apply Kd.V_alloc | apply Kd.V_drewN | apply Kd.V_drew)); exact HO_1.out) (Kd.R_base ho0) hb); have n1_ := Aside0.mk (Kd.R_elder' (by (with_reducible repeat (first | apply Kd.R_alloc | apply Kd.R_drewN | apply Kd.R_drew)); exact HO_8.out) (Kd.R_base ho0) hb); have n2_ := Aside0.mk (Kd.R_lower (Kd.R_new' (Kd.R_newM (M := fun k_ => (w.heap.size ≤ k_)) ho0 (below_size (by repeat (first | (with_reducible first | exact HB.out | apply below_alloc | apply pw_below_drewN | apply below_drew1) | exact HB.out))) (fun k_ h_ => h_)) (Kd.R_lt (by (with_reducible repeat (first | apply Kd.R_alloc | apply Kd.R_drewN | apply Kd.R_drew)); exact HO_8.out))) (below_size (by repeat (first | (with_reducible first | exact HB.out | apply below_alloc | apply pw_below_drewN | apply below_drew1) | exact HB.out)))); have n3_ := Aside0.mk (below_step (by repeat (first | (with_reducible first | exact HB.out | apply below_alloc | apply pw_below_drewN | apply below_drew1) | exact HB.out)) hb); clear HO_1; clear HO_8; clear HB; have HO_1 := n0_; have HO_8 := n1_; have HO158 := n2_; have HB := n3_; clear n0_ n1_ n2_ n3_; (try clear hb); (try clear hb2); (try clear hk); (try clear hi); (try clear ho0); obtain ⟨Ao26, co26, eo26⟩ := Kd.R_slice HO158.out; subst eo26) | ((with_reducible refine gate_builtin (b := .append) (xs := #[.tmp 49, .tmp 53]) rfl ?_); at_builtin; refine Kd.R_append_rows (Kd.int .u8) (w0 := w) w.heap.size rfl (.tmp 49) (.tmp 53) 37 5 (.int .u8 0) 1 rfl Try.underlying37 info5 rfl (by decide) (by omega) u8 x8_3 t156 _ _ _ (fun k_ => (w.heap.size ≤ k_) ∧ some k_ ≠ (.slice Ao26 t156.length co26 : Value).ownBlock) (fun _ => False) rfl rfl ?aO ?aR (fun _ _ h => h) (fun _ h => h.elim) ?aF ?aB ?aS ?aL ?_; (case aR => repeat (first | exact (Kd.R_reads' HO158.out).2.2 | (with_reducible refine Kd.C_alloc ?_ _) | (with_reducible refine Kd.C_drewN ?_ _) | (with_reducible refine Kd.C_drew ?_))); (case aB => exact (by repeat (first | (with_reducible first | exact HB.out | apply below_alloc | apply pw_below_drewN | apply below_drew1) | exact HB.out))); (case aF => exact (fun k_ hk => ⟨(Nat.le_trans (below_size (by repeat (first | (with_reducible first | exact HB.out | apply below_alloc | apply pw_below_drewN | apply below_drew1) | exact HB.out))) hk), Kd.fresh' (Kd.R_lt (by (with_reducible repeat (first | apply Kd.R_alloc | apply Kd.R_drewN | apply Kd.R_drew)); exact HO158.out)) k_ hk⟩)); (case aO => exact (by (with_reducible repeat (first | apply Kd.R_alloc | apply Kd.R_drewN | apply Kd.R_drew)); exact HO_8.out)); (case aS => exact (below_size (by repeat (first | (with_reducible first | exact HB.out | apply below_alloc | apply pw_below_drewN | apply below_drew1) | exact HB.out)))); (case aL => have := LMc17.out; omega); intro v160 w25 ho hb hg hat; rw [← Ny159.out] at ho; have n0_ := Aside0.mk (Kd.V_afterv (ok := (fun k_ => (P1_ k_ ∨ w.heap.size ≤ k_) ∧ some k_ ≠ (.slice Ao26 t156.length co26 : Value).ownBlock)) (by (with_reducible repeat (first | apply Kd.V_alloc | apply Kd.V_drewN | apply Kd.V_drew)); exact Kd.V_mono HO_1.out (fun _ hk => ⟨⟨hk.1.1, hk.2⟩, hk.1.2⟩)) hg hat); have n1_ := Aside0.mk (Kd.R_after (ok := (fun k_ => (w.heap.size ≤ k_))) (by (with_reducible repeat (first | apply Kd.R_alloc | apply Kd.R_drewN | apply Kd.R_drew)); exact Kd.R_mono HO158.out (fun _ hk => ⟨hk.1.1, hk.2⟩)) hg hat); have n2_ := Aside0.mk (hb); have n3_ := Aside0.mk (ho); clear HO_1; clear HO158; clear HB; clear HO_8; have HO_1 := n0_; have HO158 := n1_; have HB := n2_; have HO161 := n3_; clear n0_ n1_ n2_ n3_; clear ho hb hg hat; have p162 : 0 ≤ (0 : Int) := (by omega); have q162 : 0 < (x1_3.length : Int) := of_decide_eq_true (by first | (with_reducible assumption) | assumption); obtain ⟨ad162, e162, hx162_0⟩ := Kd.at_int (Kd.V_reads' HO_1.out).2.2 0 p162 q162; cases e162; have qi162 : (0 < x1_3.length) = True := eq_true (by omega); (try rw [show ((0 : Int)).toNat = 0 from rfl] at hx162_0); (try rw [Addr.add_zero'] at hx162_0); replace p162 := eq_true p162; replace q162 := eq_true q162) | ((with_reducible refine gate_callee (f := 39) rfl ?_); refine goesL_ (some 63) rfl rfl Try.func39 (by kernel_rfl) rfl #[.int .u64 (IntKind.u64.wrap (rd x1_3 0)), .int .i64 (wrap64 (Int.tdiv (wrap64 (a0 + 7)) 8))] rfl (by (try simp only [List.map_toArray, List.map_cons, List.map_nil]); first | done | rfl | (simp only [List.length_drop, List.length_take]; rfl)) ?_; (with_reducible refine (bits_Little.calls k3 (IntKind.u64.wrap (rd x1_3 0)) (wrap64 (Int.tdiv (wrap64 (a0 + 7)) 8)) t163 t164 _ A19.out).mono ?_); rintro e w27 ⟨v165, rfl, ho0, hb⟩; refine ⟨_, rfl, ?_⟩; have n0_ := Aside0.mk (Kd.V_elder' (by (with_reducible repeat (first | apply Kd.V_alloc | apply Kd.V_drewN | apply Kd.V_drew)); exact HO_1.out) (Kd.R_base ho0) hb); have n1_ := Aside0.mk (Kd.R_elder' (by (with_reducible repeat (first | apply Kd.R_alloc | apply Kd.R_drewN | apply Kd.R_drew)); exact HO158.out) (Kd.R_base ho0) hb); have n2_ := Aside0.mk (Kd.R_elder' (by (with_reducible repeat (first | apply Kd.R_alloc | apply Kd.R_drewN | apply Kd.R_drew)); exact HO161.out) (Kd.R_base ho0) hb); have n3_ := Aside0.mk (Kd.R_lower (Kd.R_new' (Kd.R_new' (Kd.R_newM (M := fun k_ => (w.heap.size ≤ k_)) ho0 (below_size (by repeat (first | (with_reducible first | exact HB.out | apply below_alloc | apply pw_below_drewN | apply below_drew1) | exact HB.out))) (fun k_ h_ => h_)) (Kd.R_lt (by (with_reducible repeat (first | apply Kd.R_alloc | apply Kd.R_drewN | apply Kd.R_drew)); exact HO158.out))) (Kd.R_lt (by (with_reducible repeat (first | apply Kd.R_alloc | apply Kd.R_drewN | apply Kd.R_drew)); exact HO161.out))) (below_size (by repeat (first | (with_reducible first | exact HB.out | apply below_alloc | apply pw_below_drewN | apply below_drew1) | exact HB.out)))); have n4_ := Aside0.mk (below_step (by repeat (first | (with_reducible first | exact HB.out | apply below_alloc | apply pw_below_drewN | apply below_drew1) | exact HB.out)) hb); clear HO_1; clear HO158; clear HO161; clear HB; have HO_1 := n0_; have HO158 := n1_; have HO161 := n2_; have HO166 := n3_; have HB := n4_; clear n0_ n1_ n2_ n3_ n4_; (try clear hb); (try clear hb2); (try clear hk); (try clear hi); (try clear ho0); obtain ⟨Ao29, co29, eo29⟩ := Kd.R_slice HO166.out; subst eo29) | ((with_reducible refine gate_builtin (b := .append) (xs := #[.tmp 66, .tmp 67]) rfl ?_); at_builtin; refine Kd.R_append_rows (Kd.int .u8) (w0 := w) w.heap.size rfl (.tmp 66) (.tmp 67) 37 5 (.int .u8 0) 1 rfl Try.underlying37 info5 rfl (by decide) (by omega) v160 y159 t163 _ _ _ (fun k_ => (w.heap.size ≤ k_) ∧ some k_ ≠ (.slice Ao26 t156.length co26 : Value).ownBlock ∧ some k_ ≠ (.slice Ao29 t163.length co29 : Value).ownBlock) (fun _ => False) rfl rfl ?aO ?aR (fun _ _ h => h) (fun _ h => h.elim) ?aF ?aB ?aS ?aL ?_; (case aR => repeat (first | exact (Kd.R_reads' HO166.out).2.2 | (with_reducible refine Kd.C_alloc ?_ _) | (with_reducible refine Kd.C_drewN ?_ _) | (with_reducible refine Kd.C_drew ?_))); (case aB => exact (by repeat (first | (with_reducible first | exact HB.out | apply below_alloc | apply pw_below_drewN | apply below_drew1) | exact HB.out))); (case aF => exact (fun k_ hk => ⟨(Nat.le_trans (below_size (by repeat (first | (with_reducible first | exact HB.out | apply below_alloc | apply pw_below_drewN | apply below_drew1) | exact HB.out))) hk), Kd.fresh' (Kd.R_lt (by (with_reducible repeat (first | apply Kd.R_alloc | apply Kd.R_drewN | apply Kd.R_drew)); exact HO158.out)) k_ hk, Kd.fresh' (Kd.R_lt (by (with_reducible repeat (first | apply Kd.R_alloc | apply Kd.R_drewN | apply Kd.R_drew)); exact HO166.out)) k_ hk⟩)); (case aO => exact (by (with_reducible repeat (first | apply Kd.R_alloc | apply Kd.R_drewN | apply Kd.R_drew)); exact Kd.R_mono HO161.out (fun _ hk => ⟨hk.1.1, ⟨hk.1.2, hk.2⟩⟩))); (case aS => exact (below_size (by repeat (first | (with_reducible first | exact HB.out | apply below_alloc | apply pw_below_drewN | apply below_drew1) | exact HB.out)))); (case aL => have := LMc20.out; omega); intro v168 w28 ho hb hg hat; rw [← Ny167.out] at ho; have n0_ := Aside0.mk (Kd.V_afterv (ok := (fun k_ => (P1_ k_ ∨ w.heap.size ≤ k_) ∧ some k_ ≠ (.slice Ao26 t156.length co26 : Value).ownBlock ∧ some k_ ≠ (.slice Ao29 t163.length co29 : Value).ownBlock)) (by (with_reducible repeat (first | apply Kd.V_alloc | apply Kd.V_drewN | apply Kd.V_drew)); exact Kd.V_mono HO_1.out (fun _ hk => ⟨⟨hk.1.1.1, ⟨hk.1.1.2, hk.2⟩⟩, hk.1.2⟩)) hg hat); have n1_ := Aside0.mk (Kd.R_after (ok := (fun k_ => (w.heap.size ≤ k_) ∧ some k_ ≠ (.slice Ao29 t163.length co29 : Value).ownBlock)) (by (with_reducible repeat (first | apply Kd.R_alloc | apply Kd.R_drewN | apply Kd.R_drew)); exact Kd.R_mono HO158.out (fun _ hk => ⟨⟨hk.1.1, hk.2⟩, hk.1.2⟩)) hg hat); have n2_ := Aside0.mk (Kd.R_after (ok := (fun k_ => (w.heap.size ≤ k_) ∧ some k_ ≠ (.slice Ao26 t156.length co26 : Value).ownBlock)) (by (with_reducible repeat (first | apply Kd.R_alloc | apply Kd.R_drewN | apply Kd.R_drew)); exact Kd.R_mono HO166.out (fun _ hk => ⟨⟨hk.1.1.1, hk.1.2⟩, hk.2⟩)) hg hat); have n3_ := Aside0.mk (hb); have n4_ := Aside0.mk (ho); clear HO_1; clear HO158; clear HO166; clear HB; clear HO161; have HO_1 := n0_; have HO158 := n1_; have HO166 := n2_; have HB := n3_; have HO169 := n4_; clear n0_ n1_ n2_ n3_ n4_; clear ho hb hg hat; have q30 : (t155 : Int) ≤ ((x1_3.length : Int) : Int) := of_decide_eq_true (by first | (with_reducible assumption) | assumption); obtain ⟨i030, hi030, _, hsz30, _⟩ := info_parts info3; have hroom30 : x1_3.length ≤ co23 := (Kd.V_reads' HO_1.out).2.1; have hC30 : Kd.F (Kd.int .i64) _ _ (some ad162) x1_3.length x1_3 := (Kd.V_at (base := w.heap.size) HO_1.out).2.2; have q030 : (0 : Int) ≤ (t155 : Int) := of_decide_eq_true (by first | (with_reducible assumption) | assumption); have hcut30 := cut_from (P := Try.prog) 23 3 .i64 Try.underlying23 hi030 1 hsz30 (some ad162) x1_3.length co23 t155 q030 q30; have hr30 := Kd.F_cut (m := (t155 : Int).toNat) (c := co23) hC30 (by omega) hroom30; obtain ⟨A30, hA30⟩ : ∃ A1, A1 = (if co23 = (t155 : Int).toNat then (some ad162) else ((some ad162) : Option Addr).map (·.add ((t155 : Int).toNat * 1))) := ⟨_, rfl⟩; obtain ⟨c30, hc30⟩ : ∃ c1, c1 = co23 - (t155 : Int).toNat := ⟨_, rfl⟩; have hy30 : y170.length = x1_3.length - (t155 : Int).toNat := (by rw [Ny170.out, List.length_drop] <;> omega); rw [show (x1_3).drop (t155 : Int).toNat = y170 from Ny170.out.symm] at hr30; replace hr30 : Kd.F (Kd.int .i64) _ _ A30 y170.length y170 := (by rw [hA30]; exact hr30); rw [← hy30, ← hA30, ← hc30] at hcut30; have HO174 := Aside0.mk (show Kd.V (Kd.int .i64) 3 _ w.heap.size _ (.slice A30 y170.length c30) y170 from Kd.V_mk (by rw [hy30, hc30]; exact Nat.sub_le_sub_right hroom30 _) hr30); have HC174 := Aside0.mk (show y170.length ≤ c30 from by rw [hy30, hc30]; exact Nat.sub_le_sub_right hroom30 _); clear hr30 hC30 hroom30 hi030 hsz30 hc30; have KY30 := Aside0.mk hy30; have KA30 := Aside0.mk hA30; clear hy30 hA30; replace q30 := eq_true q30))
                 go_roundg k3
                 case measure => have := HJ2.out; have := HK2.out; have := HK3.out; omega
                 case rel => exact ⟨(y170), (y167), H', ⟨by have := HJ2.out; have := HK2.out; have := HK3.out; omega⟩, ⟨by (with_reducible repeat (first | apply Kd.V_alloc | apply Kd.V_drewN | apply Kd.V_drew)); exact Kd.V_mono HO174.out (fun _ hk => ⟨hk.1.1, hk.2⟩)⟩, ⟨by (with_reducible repeat (first | apply Kd.R_alloc | apply Kd.R_drewN | apply Kd.R_drew)); exact Kd.R_mono HO169.out (fun _ hk => hk.1)⟩, ⟨by repeat (first | (with_reducible first | exact HB.out | apply below_alloc | apply pw_below_drewN | apply below_drew1) | exact HB.out)⟩⟩
                ·rw [if_neg c22] at H
                 exact absurd H (by simp)
               ·rw [if_neg c21] at H
                exact absurd H (by simp)
              ·rw [if_neg c20] at H
               exact absurd H (by simp)
             ·rw [if_neg c18] at H
              exact absurd H (by simp)
            ·rw [if_neg c17] at H
             exact absurd H (by simp)
           ·rw [if_neg c15] at H
            have c15b0 : decide (8 ≤ t155) = false := decide_eq_false c15
            clear c15
            replace H := Option.bind_eq_some_iff.mp H
            obtain ⟨t175, A310, H⟩ := H
            replace H : (if 0 ≤ (wrap64 ((wrap64 (Int.tdiv (wrap64 (t175 + 7)) 8)) * 8)) then (if (wrap64 ((wrap64 (Int.tdiv (wrap64 (t175 + 7)) 8)) * 8) : Int).toNat ≤ 35184372088832 then (if 0 ≤ t175 then (if t175 ≤ (x1_3.length : Int) then ((some (x1_3.take (t175 : Int).toNat : List Int)).bind fun y179 => (hybrid_Write.l2 k3 a0 x1_3 x8_3 t175 (List.replicate (wrap64 ((wrap64 (Int.tdiv (wrap64 (t175 + 7)) 8)) * 8) : Int).toNat 0) y179 (y179.length : Int) 0)) else (none)) else (none)) else (none)) else (none)) = some (r1, r2) := H
            have A31 := Aside0.mk A310
            clear A310
            obtain ⟨ji32, hji32⟩ : ∃ j_ : Int, (wrap64 ((wrap64 (Int.tdiv (wrap64 (t175 + 7)) 8)) * 8)) = j_ := ⟨_, rfl⟩
            replace H : (if 0 ≤ (ji32) then (if (ji32 : Int).toNat ≤ 35184372088832 then (if 0 ≤ t175 then (if t175 ≤ (x1_3.length : Int) then ((some (x1_3.take (t175 : Int).toNat : List Int)).bind fun y179 => (hybrid_Write.l2 k3 a0 x1_3 x8_3 t175 (List.replicate (ji32 : Int).toNat 0) y179 (y179.length : Int) 0)) else (none)) else (none)) else (none)) else (none)) = some (r1, r2) := by first | (rw [hji32] at H; exact H) | (simp only [hji32] at H ⊢; exact H)
            (try rw [hji32] at A14)
            (try rw [hji32] at A31)
            have hji32w : (IntKind.i64.wrap ((wrap64 (Int.tdiv (wrap64 (t175 + 7)) 8)) * 8)) = ji32 := (i64_w _).trans hji32
            by_cases c33 : 0 ≤ (ji32)
            ·rw [if_pos c33] at H
             have c33b0 := eq_true c33
             have c33b1 : decide (0 ≤ (ji32)) = true := decide_eq_true c33
             clear c33
             by_cases c34 : (ji32 : Int).toNat ≤ 35184372088832
             ·rw [if_pos c34] at H
              have c34b0 := eq_true c34
              have c34b1 : decide ((ji32 : Int).toNat ≤ 35184372088832) = true := decide_eq_true c34
              clear c34
              obtain ⟨y176, hy176⟩ : ∃ y_ : List Int, y_ = (List.replicate (ji32 : Int).toNat 0) := ⟨_, rfl⟩
              replace H : (if 0 ≤ t175 then (if t175 ≤ (x1_3.length : Int) then ((some (x1_3.take (t175 : Int).toNat : List Int)).bind fun y179 => (hybrid_Write.l2 k3 a0 x1_3 x8_3 t175 y176 y179 (y179.length : Int) 0)) else (none)) else (none)) = some (r1, r2) := by first | (rw [hy176]; with_reducible exact H) | (have H2_ := (Option.bind_some _ _).symm.trans H; rw [hy176]; with_reducible exact H2_) | (have H2_ := (Option.bind_some _ _).symm.trans H; with_reducible exact H2_) | with_reducible exact H | (rw [hy176]; exact H) | exact H
              have Ny176 := Aside0.mk hy176
              clear hy176
              by_cases c35 : 0 ≤ t175
              ·rw [if_pos c35] at H
               have c35b0 := eq_true c35
               have c35b1 : decide (0 ≤ t175) = true := decide_eq_true c35
               clear c35
               by_cases c36 : t175 ≤ (x1_3.length : Int)
               ·rw [if_pos c36] at H
                have c36b0 := eq_true c36
                have c36b1 : decide (t175 ≤ (x1_3.length : Int)) = true := decide_eq_true c36
                clear c36
                obtain ⟨y179, hy179⟩ : ∃ y_ : List Int, y_ = (x1_3.take (t175 : Int).toNat) := ⟨_, rfl⟩
                replace H : (hybrid_Write.l2 k3 a0 x1_3 x8_3 t175 y176 y179 (y179.length : Int) 0) = some (r1, r2) := by first | (rw [hy179]; with_reducible exact H) | (have H2_ := (Option.bind_some _ _).symm.trans H; rw [hy179]; with_reducible exact H2_) | (have H2_ := (Option.bind_some _ _).symm.trans H; with_reducible exact H2_) | with_reducible exact H | (rw [hy179]; exact H) | exact H
                have Ny179 := Aside0.mk hy179
                clear hy179
                have H' := Aside0.mk H
                clear H
                obtain ⟨Ao37, co37, eo37⟩ := Kd.V_slice HO_1.out
                subst eo37
                go_wp2_with (first | ((with_reducible refine gate_callee (f := 37) rfl ?_); refine goesL_ (some 46) rfl rfl Try.func37 (by kernel_rfl) rfl #[.slice Ao37 x1_3.length co37] rfl (by (try simp only [List.map_toArray, List.map_cons, List.map_nil]); first | done | rfl | (simp only [List.length_drop, List.length_take]; rfl)) ?_; (with_reducible refine (hybrid_same.calls k3 _ _ x1_3 t155 _ ?side1 ?side2 A14.out).mono ?_); (case side1 => repeat (first | exact (Kd.V_reads' HO_1.out).2.2 | (with_reducible refine Kd.C_alloc ?_ _) | (with_reducible refine Kd.C_drewN ?_ _) | (with_reducible refine Kd.C_drew ?_))); (case side2 => exact (Kd.V_reads' HO_1.out).2.1); rintro e w' ⟨rfl, ⟨nd, rfl⟩⟩; refine ⟨_, rfl, ?_⟩) | ((with_reducible refine gate_callee (f := 40) rfl ?_); refine goesL_ (some 73) rfl rfl Try.func40 (by kernel_rfl) rfl #[.slice Ao37 x1_3.length co37] rfl (by (try simp only [List.map_toArray, List.map_cons, List.map_nil]); first | done | rfl | (simp only [List.length_drop, List.length_take]; rfl)) ?_; (with_reducible refine (hybrid_packs.calls k3 _ _ x1_3 t175 _ ?side1 ?side2 A31.out).mono ?_); (case side1 => repeat (first | exact (Kd.V_reads' HO_1.out).2.2 | (with_reducible refine Kd.C_alloc ?_ _) | (with_reducible refine Kd.C_drewN ?_ _) | (with_reducible refine Kd.C_drew ?_))); (case side2 => exact (Kd.V_reads' HO_1.out).2.1); rintro e w' ⟨rfl, ⟨nd, rfl⟩⟩; refine ⟨_, rfl, ?_⟩) | ((with_reducible refine gate_dst (N := 78) rfl ?_); refine Kd.R_make (Kd.int .u64) _ 61 rfl (N := 78) rfl 65 _ _ rfl ji32 rfl rfl Try.underlying65 (.int .u64 0) 8 info61 rfl (by decide) (by omega) 0 (ok := fun _ => True) (okp := fun _ => True) rfl (fun _ hk => hk) trivial (of_decide_eq_true (by first | (with_reducible assumption) | assumption)) (Nat.le_trans (Nat.mul_le_mul_right _ (of_decide_eq_true (by first | (with_reducible assumption) | assumption) : ji32.toNat ≤ 35184372088832)) (by omega)) (Below.refl _ _) (Nat.le_refl _) ?_; intro v177 w38 ho39 hb hg_ hnew_; clear hg_ hnew_; (first | rw [← Ny176.out] at ho39 | (simp only [Int.reduceToNat] at ho39; rw [← Ny176.out] at ho39)); have n0_ := Aside0.mk (Kd.V_elder' (by (with_reducible repeat (first | apply Kd.V_alloc | apply Kd.V_drewN | apply Kd.V_drew)); exact HO_1.out) (Kd.R_base ho39) hb); have n1_ := Aside0.mk (Kd.R_below (by (with_reducible repeat (first | apply Kd.R_alloc | apply Kd.R_drewN | apply Kd.R_drew)); exact HO_8.out) hb); have n2_ := Aside0.mk (Kd.R_lower (Kd.R_newM (M := fun k_ => (w.heap.size ≤ k_)) ho39 (below_size (by repeat (first | (with_reducible first | exact HB.out | apply below_alloc | apply pw_below_drewN | apply below_drew1) | exact HB.out))) (fun k_ h_ => h_)) (below_size (by repeat (first | (with_reducible first | exact HB.out | apply below_alloc | apply pw_below_drewN | apply below_drew1) | exact HB.out)))); have n3_ := Aside0.mk (below_step (by repeat (first | (with_reducible first | exact HB.out | apply below_alloc | apply pw_below_drewN | apply below_drew1) | exact HB.out)) hb); clear HO_1; clear HO_8; clear HB; have HO_1 := n0_; have HO_8 := n1_; have HO178 := n2_; have HB := n3_; clear n0_ n1_ n2_ n3_; clear hb ho39; have q40 : (t175 : Int) ≤ ((x1_3.length : Int) : Int) := of_decide_eq_true (by first | (with_reducible assumption) | assumption); obtain ⟨i040, hi040, _, hsz40, _⟩ := info_parts info3; have hroom40 : x1_3.length ≤ co37 := (Kd.V_reads' HO_1.out).2.1; have hC40 : Kd.F (Kd.int .i64) _ _ Ao37 x1_3.length x1_3 := (Kd.V_at (base := w.heap.size) HO_1.out).2.2; have hcut40 := cut_to (P := Try.prog) 23 3 .i64 Try.underlying23 hi040 Ao37 x1_3.length co37 t175 (of_decide_eq_true (by first | (with_reducible assumption) | assumption)) q40 hroom40; have hr40 := Kd.F_take (m := (t175 : Int).toNat) hC40 (by omega); have hy40 : y179.length = (t175 : Int).toNat := (by rw [Ny179.out, List.length_take]; omega); rw [← Ny179.out] at hr40; rw [← hy40] at hcut40; have HO183 := Aside0.mk (show Kd.V (Kd.int .i64) 3 _ w.heap.size _ (.slice Ao37 y179.length co37) y179 from Kd.V_mk (by omega) hr40); have HC183 := Aside0.mk (show y179.length ≤ co37 from by omega); clear hr40 hC40 hroom40 hi040 hsz40; have KY40 := Aside0.mk hy40; clear hy40; replace q40 := eq_true q40))
                go_loopg [83] k3 (fun kq v83 w' => ∃ (x12_4 : List Int) (x83_4 : Int), v83 = .int .i64 x83_4 ∧ Aside0 (hybrid_Write.l2 kq a0 x1_3 x8_3 t175 x12_4 y179 (y179.length : Int) x83_4 = some (r1, r2)) ∧ Aside0 (kq ≤ k3) ∧ Aside0 (Kd.V (Kd.int .i64) 3 w' w.heap.size (fun k_ => (P1_ k_ ∨ w.heap.size ≤ k_) ∧ some k_ ≠ (u8 : Value).ownBlock ∧ some k_ ≠ (v177 : Value).ownBlock) (.slice Ao37 x1_3.length co37) x1_3) ∧ Aside0 (Kd.R (Kd.int .u8) 5 w' w.heap.size (fun k_ => (w.heap.size ≤ k_)) u8 x8_3) ∧ Aside0 (Kd.R (Kd.int .u64) 61 w' w.heap.size (fun k_ => (w.heap.size ≤ k_)) v177 x12_4) ∧ Aside0 (Kd.V (Kd.int .i64) 3 w' w.heap.size (fun k_ => (P1_ k_ ∨ w.heap.size ≤ k_) ∧ some k_ ≠ (u8 : Value).ownBlock ∧ some k_ ≠ (v177 : Value).ownBlock) (.slice Ao37 y179.length co37) y179) ∧ Aside0 (Below w.heap.size w w'))
                case atStart => exact ⟨(y176), (0), (by first | rfl | (simp; done) | (simp [*]; done)), H', ⟨Nat.le_refl _⟩, ⟨by (with_reducible repeat (first | apply Kd.V_alloc | apply Kd.V_drewN | apply Kd.V_drew)); exact Kd.V_mono HO_1.out (fun _ hk => ⟨hk.1.1, ⟨hk.1.2, hk.2⟩⟩)⟩, ⟨by (with_reducible repeat (first | apply Kd.R_alloc | apply Kd.R_drewN | apply Kd.R_drew)); exact HO_8.out⟩, ⟨by (with_reducible repeat (first | apply Kd.R_alloc | apply Kd.R_drewN | apply Kd.R_drew)); exact Kd.R_mono HO178.out (fun _ hk => hk.1)⟩, ⟨by (with_reducible repeat (first | apply Kd.V_alloc | apply Kd.V_drewN | apply Kd.V_drew)); exact Kd.V_mono HO183.out (fun _ hk => ⟨hk.1.1, ⟨hk.1.2, hk.2⟩⟩)⟩, ⟨by repeat (first | (with_reducible first | exact HB.out | apply below_alloc | apply pw_below_drewN | apply below_drew1) | exact HB.out)⟩⟩
                case round =>
                 clear H'
                 try clear c1
                 try clear p1
                 try clear q1
                 try clear hx1
                 try clear qi1
                 try clear c2
                 try clear p2
                 try clear c3
                 try clear q3
                 try clear c4
                 try clear c4b0
                 try clear q4
                 try clear c5
                 try clear c6
                 try clear c6b0
                 try clear p6
                 try clear c7
                 try clear c7b0
                 try clear c8
                 try clear c8b0
                 try clear c9
                 try clear c9b0
                 try clear c11
                 try clear c11b0
                 try clear c12
                 try clear c12b0
                 try clear c12b1
                 try clear c13
                 try clear c13b0
                 try clear c13b1
                 try clear c15
                 try clear c15b0
                 try clear p15
                 try clear q15
                 try clear hx15
                 try clear p16
                 try clear q16
                 try clear hx16
                 try clear qi16
                 try clear c17
                 try clear c18
                 try clear c18b0
                 try clear c18b1
                 try clear c20
                 try clear c21
                 try clear c21b0
                 try clear c21b1
                 try clear c22
                 try clear c22b0
                 try clear c22b1
                 try clear c30
                 try clear q30
                 try clear c33
                 try clear c33b0
                 try clear c33b1
                 try clear c34
                 try clear c34b0
                 try clear c34b1
                 try clear c35
                 try clear c35b0
                 try clear c35b1
                 try clear c36
                 try clear c36b0
                 try clear c36b1
                 try clear c37
                 try clear c38
                 try clear c39
                 try clear c40
                 try clear q40
                 try clear hx153_0
                 try clear hx162_0
                 try clear p1
                 try clear p153
                 try clear p162
                 try clear p2
                 try clear p6
                 try clear q030
                 try clear q1
                 try clear q153
                 try clear q162
                 try clear q30
                 try clear q40
                 obtain ⟨x12_4, x83_4, rfl, HA, HK4, HO_1, HO_8, HO_12, HO_81, HB⟩ := hrel
                 cases gk with
                 | zero => exact absurd HA.out (by simp [hybrid_Write.l2])
                 | succ k4 =>
                  have H := HA.out
                  clear HA
                  simp only [hybrid_Write.l2] at H
                  by_cases c41 : x83_4 < (y179.length : Int)
                  ·rw [if_pos c41] at H
                   have c41b0 : decide (x83_4 < (y179.length : Int)) = true := decide_eq_true c41
                   clear c41
                   by_cases c42 : 0 ≤ x83_4
                   ·rw [if_pos c42] at H
                    have c42b0 : decide (0 ≤ x83_4) = true := decide_eq_true c42
                    clear c42
                    by_cases c43 : x83_4 < (y179.length : Int)
                    ·rw [if_pos c43] at H
                     have c43b0 : decide (x83_4 < (y179.length : Int)) = true := decide_eq_true c43
                     clear c43
                     by_cases c44 : x83_4 < (x12_4.length : Int)
                     ·rw [if_pos c44] at H
                      have c44b0 : decide (x83_4 < (x12_4.length : Int)) = true := decide_eq_true c44
                      clear c44
                      obtain ⟨y185, hy185⟩ : ∃ y_ : List Int, y_ = (x12_4.set (x83_4 : Int).toNat (IntKind.u64.wrap (rd y179 x83_4))) := ⟨_, rfl⟩
                      replace H : (hybrid_Write.l2 k4 a0 x1_3 x8_3 t175 y185 y179 (y179.length : Int) (wrap64 (x83_4 + 1))) = some (r1, r2) := by first | (rw [hy185]; with_reducible exact H) | (have H2_ := (Option.bind_some _ _).symm.trans H; rw [hy185]; with_reducible exact H2_) | (have H2_ := (Option.bind_some _ _).symm.trans H; with_reducible exact H2_) | with_reducible exact H | (rw [hy185]; exact H) | exact H
                      have Ny185 := Aside0.mk hy185
                      clear hy185
                      have H' := Aside0.mk H
                      clear H
                      have p184 : 0 ≤ (x83_4 : Int) := of_decide_eq_true (by first | (with_reducible assumption) | assumption)
                      have q184 : x83_4 < (y179.length : Int) := of_decide_eq_true (by first | (with_reducible assumption) | assumption)
                      obtain ⟨ad184, e184, hx184_0⟩ := Kd.at_int (Kd.V_reads' HO_81.out).2.2 x83_4 p184 q184
                      cases e184
                      replace p184 := eq_true p184
                      replace q184 := eq_true q184
                      have p45 : 0 ≤ (x83_4 : Int) := of_decide_eq_true (by first | (with_reducible assumption) | assumption)
                      have q45 : (x83_4 : Int) < ((x12_4.length : Int) : Int) := of_decide_eq_true (by first | (with_reducible assumption) | assumption)
                      obtain ⟨go45, co45, eo45, gb45, gl45, cl45, HG45⟩ := Kd.R_form HO_12.out (by omega)
                      (first | cases eo45 | (injection eo45 with ea_ en_ ec_; (first | subst ea_ | (injection ea_ with ea_; subst ea_)); subst ec_; clear en_))
                      have GB45 := Aside0.mk gb45
                      have GG45 := Aside0.mk HG45
                      clear gb45 gl45 HG45
                      obtain ⟨hx45_0, hf45_0⟩ := Kd.R_celln 0 HO_12.out (x83_4 : Int) p45 q45
                      replace p45 := eq_true p45
                      replace q45 := eq_true q45
                      have HP46 := Kd.R_putg HO_12.out (x83_4 : Int) (IntKind.u64.wrap (rd y179 x83_4))
                      go_wp2_with (first | ((with_reducible refine gate_store (t := 61) (p := 92) rfl ?_); refine store_event (t := 61) (p := 92) (v := ?vo_w47) (w1 := (wr.setCell ⟨go45, (x83_4 : Int).toNat, none⟩ (.int .u64 (IntKind.u64.wrap (rd y179 x83_4))))) ?hg ?ho ?hn ?hr ?_; (case ho => rfl); (case hg => rfl); (case hn => rfl); (case hr => first | (go_simp; done) | (go_simp; rfl)); intro w47 hw; have hg : wr.grownBy w47 (some go45) := (by rw [hw]; exact HP46.2); have hp_ : Kd.R (Kd.int .u64) 61 w47 w.heap.size (fun k_ => (w.heap.size ≤ k_)) (.slice (some ⟨go45, 0, none⟩) x12_4.length co45) y185 := (by rw [hw, Ny185.out]; exact HP46.1); clear HP46; have n0_ := Aside0.mk (Kd.V_afterv (v := (.slice (some ⟨go45, 0, none⟩) x12_4.length co45)) (v1 := (.slice (some ⟨go45, 0, none⟩) x12_4.length co45)) (ok := (fun k_ => (P1_ k_ ∨ w.heap.size ≤ k_) ∧ some k_ ≠ (u8 : Value).ownBlock)) (by (with_reducible repeat (first | apply Kd.V_alloc | apply Kd.V_drewN | apply Kd.V_drew)); exact Kd.V_mono HO_1.out (fun _ hk => ⟨⟨hk.1, hk.2.1⟩, hk.2.2⟩)) hg (.inl rfl)); have n1_ := Aside0.mk (Kd.R_over' (v := (.slice (some ⟨go45, 0, none⟩) x12_4.length co45)) (by (with_reducible repeat (first | apply Kd.R_alloc | apply Kd.R_drewN | apply Kd.R_drew)); exact HO_8.out) (Kd.R_typed HO_12.out) (by decide) hg); have n2_ := Aside0.mk (hp_); have n3_ := Aside0.mk (Kd.V_afterv (v := (.slice (some ⟨go45, 0, none⟩) x12_4.length co45)) (v1 := (.slice (some ⟨go45, 0, none⟩) x12_4.length co45)) (ok := (fun k_ => (P1_ k_ ∨ w.heap.size ≤ k_) ∧ some k_ ≠ (u8 : Value).ownBlock)) (by (with_reducible repeat (first | apply Kd.V_alloc | apply Kd.V_drewN | apply Kd.V_drew)); exact Kd.V_mono HO_81.out (fun _ hk => ⟨⟨hk.1, hk.2.1⟩, hk.2.2⟩)) hg (.inl rfl)); have n4_ := Aside0.mk ((by rw [hw]; exact below_set (HB.out) GB45.out : Below w.heap.size w w47)); clear HO_1; clear HO_8; clear HO_12; clear HO_81; clear HB; have HO_1 := n0_; have HO_8 := n1_; have HO_12 := n2_; have HO_81 := n3_; have HB := n4_; clear n0_ n1_ n2_ n3_ n4_; clear hg hw hp_))
                      go_roundg k4
                      case measure => have := HJ2.out; have := HK2.out; have := HK3.out; have := HK4.out; omega
                      case rel => exact ⟨(y185), (wrap64 (x83_4 + 1)), (by first | rfl | (simp; done) | (simp [*]; done)), H', ⟨by have := HJ2.out; have := HK2.out; have := HK3.out; have := HK4.out; omega⟩, ⟨by (with_reducible repeat (first | apply Kd.V_alloc | apply Kd.V_drewN | apply Kd.V_drew)); exact Kd.V_mono HO_1.out (fun _ hk => ⟨hk.1.1, ⟨hk.1.2, hk.2⟩⟩)⟩, ⟨by (with_reducible repeat (first | apply Kd.R_alloc | apply Kd.R_drewN | apply Kd.R_drew)); exact HO_8.out⟩, ⟨by (with_reducible repeat (first | apply Kd.R_alloc | apply Kd.R_drewN | apply Kd.R_drew)); exact HO_12.out⟩, ⟨by (with_reducible repeat (first | apply Kd.V_alloc | apply Kd.V_drewN | apply Kd.V_drew)); exact Kd.V_mono HO_81.out (fun _ hk => ⟨hk.1.1, ⟨hk.1.2, hk.2⟩⟩)⟩, ⟨by repeat (first | (with_reducible first | exact HB.out | apply below_alloc | apply pw_below_drewN | apply below_drew1) | exact HB.out)⟩⟩
                     ·rw [if_neg c44] at H
                      exact absurd H (by simp)
                    ·rw [if_neg c43] at H
                     exact absurd H (by simp)
                   ·rw [if_neg c42] at H
                    exact absurd H (by simp)
                  ·rw [if_neg c41] at H
                   have c41b0 : decide (x83_4 < (y179.length : Int)) = false := decide_eq_false c41
                   clear c41
                   replace H := Option.bind_eq_some_iff.mp H
                   obtain ⟨t186, A480, H⟩ := H
                   replace H : (if x8_3.length + t186.length < 140737488355328 then ((some (x8_3 ++ t186 : List Int)).bind fun y189 => ((bits_Pack.f k4 a0 x12_4).bind fun bt192 => (if y189.length + bt192.1.length < 140737488355328 then (if 0 ≤ t175 then (if t175 ≤ (x1_3.length : Int) then (hybrid_Write.l1 k4 a0 (x1_3.drop (t175 : Int).toNat) (y189 ++ bt192.1)) else (none)) else (none)) else (none)))) else (none)) = some (r1, r2) := H
                   have A48 := Aside0.mk A480
                   clear A480
                   by_cases c49 : x8_3.length + t186.length < 140737488355328
                   ·rw [if_pos c49] at H
                    have LMc49 := Aside0.mk c49
                    clear c49
                    obtain ⟨y189, hy189⟩ : ∃ y_ : List Int, y_ = (x8_3 ++ t186) := ⟨_, rfl⟩
                    replace H : ((bits_Pack.f k4 a0 x12_4).bind fun bt192 => (if y189.length + bt192.1.length < 140737488355328 then (if 0 ≤ t175 then (if t175 ≤ (x1_3.length : Int) then (hybrid_Write.l1 k4 a0 (x1_3.drop (t175 : Int).toNat) (y189 ++ bt192.1)) else (none)) else (none)) else (none))) = some (r1, r2) := by first | (rw [hy189]; with_reducible exact H) | (have H2_ := (Option.bind_some _ _).symm.trans H; rw [hy189]; with_reducible exact H2_) | (have H2_ := (Option.bind_some _ _).symm.trans H; with_reducible exact H2_) | with_reducible exact H | (rw [hy189]; exact H) | exact H
                    have Ny189 := Aside0.mk hy189
                    clear hy189
                    replace H := Option.bind_eq_some_iff.mp H
                    obtain ⟨⟨t192, t193⟩, A500, H⟩ := H
                    replace H : (if y189.length + t192.length < 140737488355328 then (if 0 ≤ t175 then (if t175 ≤ (x1_3.length : Int) then (hybrid_Write.l1 k4 a0 (x1_3.drop (t175 : Int).toNat) (y189 ++ t192)) else (none)) else (none)) else (none)) = some (r1, r2) := H
                    have A50 := Aside0.mk A500
                    clear A500
                    by_cases c51 : y189.length + t192.length < 140737488355328
                    ·rw [if_pos c51] at H
                     have LMc51 := Aside0.mk c51
                     clear c51
                     obtain ⟨y196, hy196⟩ : ∃ y_ : List Int, y_ = (y189 ++ t192) := ⟨_, rfl⟩
                     replace H : (if 0 ≤ t175 then (if t175 ≤ (x1_3.length : Int) then (hybrid_Write.l1 k4 a0 (x1_3.drop (t175 : Int).toNat) y196) else (none)) else (none)) = some (r1, r2) := by first | (rw [hy196]; with_reducible exact H) | (have H2_ := (Option.bind_some _ _).symm.trans H; rw [hy196]; with_reducible exact H2_) | (have H2_ := (Option.bind_some _ _).symm.trans H; with_reducible exact H2_) | with_reducible exact H | (rw [hy196]; exact H) | exact H
                     have Ny196 := Aside0.mk hy196
                     clear hy196
                     by_cases c52 : 0 ≤ t175
                     ·rw [if_pos c52] at H
                      have c52b0 := eq_true c52
                      have c52b1 : decide (0 ≤ t175) = true := decide_eq_true c52
                      clear c52
                      by_cases c53 : t175 ≤ (x1_3.length : Int)
                      ·rw [if_pos c53] at H
                       have c53b0 := eq_true c53
                       have c53b1 : decide (t175 ≤ (x1_3.length : Int)) = true := decide_eq_true c53
                       clear c53
                       obtain ⟨y199, hy199⟩ : ∃ y_ : List Int, y_ = (x1_3.drop (t175 : Int).toNat) := ⟨_, rfl⟩
                       replace H : (hybrid_Write.l1 k4 a0 y199 y196) = some (r1, r2) := by first | (rw [hy199]; with_reducible exact H) | (have H2_ := (Option.bind_some _ _).symm.trans H; rw [hy199]; with_reducible exact H2_) | (have H2_ := (Option.bind_some _ _).symm.trans H; with_reducible exact H2_) | with_reducible exact H | (rw [hy199]; exact H) | exact H
                       have Ny199 := Aside0.mk hy199
                       clear hy199
                       have H' := Aside0.mk H
                       clear H
                       obtain ⟨Ao54, co54, eo54⟩ := Kd.R_slice HO_12.out
                       subst eo54
                       go_wp2_with (first | ((with_reducible refine gate_callee (f := 38) rfl ?_); refine goesL_ (some 101) rfl rfl Try.func38 (by kernel_rfl) rfl #[.int .u64 (IntKind.u64.wrap (wrap64 ((wrap64 ((wrap64 ((x12_4.length : Int) / 8)) * 2)) + 1)))] rfl (by (try simp only [List.map_toArray, List.map_cons, List.map_nil]); first | done | rfl | (simp only [List.length_drop, List.length_take]; rfl)) ?_; (with_reducible refine (bits_Varint.calls k4 (IntKind.u64.wrap (wrap64 ((wrap64 ((wrap64 ((x12_4.length : Int) / 8)) * 2)) + 1))) t186 _ A48.out).mono ?_); rintro e w55 ⟨v187, rfl, ho0, hb⟩; refine ⟨_, rfl, ?_⟩; have n0_ := Aside0.mk (Kd.V_elder' (by (with_reducible repeat (first | apply Kd.V_alloc | apply Kd.V_drewN | apply Kd.V_drew)); exact HO_1.out) (Kd.R_base ho0) hb); have n1_ := Aside0.mk (Kd.R_elder' (by (with_reducible repeat (first | apply Kd.R_alloc | apply Kd.R_drewN | apply Kd.R_drew)); exact HO_8.out) (Kd.R_base ho0) hb); have n2_ := Aside0.mk (Kd.R_below (by (with_reducible repeat (first | apply Kd.R_alloc | apply Kd.R_drewN | apply Kd.R_drew)); exact HO_12.out) hb); have n3_ := Aside0.mk (Kd.V_elder' (by (with_reducible repeat (first | apply Kd.V_alloc | apply Kd.V_drewN | apply Kd.V_drew)); exact HO_81.out) (Kd.R_base ho0) hb); have n4_ := Aside0.mk (Kd.R_lower (Kd.R_new' (Kd.R_newM (M := fun k_ => (w.heap.size ≤ k_)) ho0 (below_size (by repeat (first | (with_reducible first | exact HB.out | apply below_alloc | apply pw_below_drewN | apply below_drew1) | exact HB.out))) (fun k_ h_ => h_)) (Kd.R_lt (by (with_reducible repeat (first | apply Kd.R_alloc | apply Kd.R_drewN | apply Kd.R_drew)); exact HO_8.out))) (below_size (by repeat (first | (with_reducible first | exact HB.out | apply below_alloc | apply pw_below_drewN | apply below_drew1) | exact HB.out)))); have n5_ := Aside0.mk (below_step (by repeat (first | (with_reducible first | exact HB.out | apply below_alloc | apply pw_below_drewN | apply below_drew1) | exact HB.out)) hb); clear HO_1; clear HO_8; clear HO_12; clear HO_81; clear HB; have HO_1 := n0_; have HO_8 := n1_; have HO_12 := n2_; have HO_81 := n3_; have HO188 := n4_; have HB := n5_; clear n0_ n1_ n2_ n3_ n4_ n5_; (try clear hb); (try clear hb2); (try clear hk); (try clear hi); (try clear ho0); obtain ⟨Ao57, co57, eo57⟩ := Kd.R_slice HO188.out; subst eo57) | ((with_reducible refine gate_builtin (b := .append) (xs := #[.tmp 94, .tmp 101]) rfl ?_); at_builtin; refine Kd.R_append_rows (Kd.int .u8) (w0 := w) w.heap.size rfl (.tmp 94) (.tmp 101) 37 5 (.int .u8 0) 1 rfl Try.underlying37 info5 rfl (by decide) (by omega) u8 x8_3 t186 _ _ _ (fun k_ => (w.heap.size ≤ k_) ∧ some k_ ≠ (.slice Ao57 t186.length co57 : Value).ownBlock) (fun _ => False) rfl rfl ?aO ?aR (fun _ _ h => h) (fun _ h => h.elim) ?aF ?aB ?aS ?aL ?_; (case aR => repeat (first | exact (Kd.R_reads' HO188.out).2.2 | (with_reducible refine Kd.C_alloc ?_ _) | (with_reducible refine Kd.C_drewN ?_ _) | (with_reducible refine Kd.C_drew ?_))); (case aB => exact (by repeat (first | (with_reducible first | exact HB.out | apply below_alloc | apply pw_below_drewN | apply below_drew1) | exact HB.out))); (case aF => exact (fun k_ hk => ⟨(Nat.le_trans (below_size (by repeat (first | (with_reducible first | exact HB.out | apply below_alloc | apply pw_below_drewN | apply below_drew1) | exact HB.out))) hk), Kd.fresh' (Kd.R_lt (by (with_reducible repeat (first | apply Kd.R_alloc | apply Kd.R_drewN | apply Kd.R_drew)); exact HO188.out)) k_ hk⟩)); (case aO => exact (by (with_reducible repeat (first | apply Kd.R_alloc | apply Kd.R_drewN | apply Kd.R_drew)); exact HO_8.out)); (case aS => exact (below_size (by repeat (first | (with_reducible first | exact HB.out | apply below_alloc | apply pw_below_drewN | apply below_drew1) | exact HB.out)))); (case aL => have := LMc49.out; omega); intro v190 w56 ho hb hg hat; rw [← Ny189.out] at ho; have n0_ := Aside0.mk (Kd.V_afterv (ok := (fun k_ => (P1_ k_ ∨ w.heap.size ≤ k_) ∧ some k_ ≠ (.slice Ao54 x12_4.length co54 : Value).ownBlock ∧ some k_ ≠ (.slice Ao57 t186.length co57 : Value).ownBlock)) (by (with_reducible repeat (first | apply Kd.V_alloc | apply Kd.V_drewN | apply Kd.V_drew)); exact Kd.V_mono HO_1.out (fun _ hk => ⟨⟨hk.1.1, ⟨hk.1.2.2, hk.2⟩⟩, hk.1.2.1⟩)) hg hat); have n1_ := Aside0.mk (Kd.R_over' (by (with_reducible repeat (first | apply Kd.R_alloc | apply Kd.R_drewN | apply Kd.R_drew)); exact HO_12.out) (Kd.R_typed (by (with_reducible repeat (first | apply Kd.R_alloc | apply Kd.R_drewN | apply Kd.R_drew)); exact HO_8.out)) (by decide) hg); have n2_ := Aside0.mk (Kd.V_afterv (ok := (fun k_ => (P1_ k_ ∨ w.heap.size ≤ k_) ∧ some k_ ≠ (.slice Ao54 x12_4.length co54 : Value).ownBlock ∧ some k_ ≠ (.slice Ao57 t186.length co57 : Value).ownBlock)) (by (with_reducible repeat (first | apply Kd.V_alloc | apply Kd.V_drewN | apply Kd.V_drew)); exact Kd.V_mono HO_81.out (fun _ hk => ⟨⟨hk.1.1, ⟨hk.1.2.2, hk.2⟩⟩, hk.1.2.1⟩)) hg hat); have n3_ := Aside0.mk (Kd.R_after (ok := (fun k_ => (w.heap.size ≤ k_))) (by (with_reducible repeat (first | apply Kd.R_alloc | apply Kd.R_drewN | apply Kd.R_drew)); exact Kd.R_mono HO188.out (fun _ hk => ⟨hk.1.1, hk.2⟩)) hg hat); have n4_ := Aside0.mk (hb); have n5_ := Aside0.mk (ho); clear HO_1; clear HO_12; clear HO_81; clear HO188; clear HB; clear HO_8; have HO_1 := n0_; have HO_12 := n1_; have HO_81 := n2_; have HO188 := n3_; have HB := n4_; have HO191 := n5_; clear n0_ n1_ n2_ n3_ n4_ n5_; clear ho hb hg hat) | ((with_reducible refine gate_callee (f := 41) rfl ?_); refine goesL_ (some 106) rfl rfl Try.func41 (by kernel_rfl) rfl #[.int .i64 a0, .slice Ao54 x12_4.length co54] rfl (by (try simp only [List.map_toArray, List.map_cons, List.map_nil]); first | done | rfl | (simp only [List.length_drop, List.length_take]; rfl)) ?_; (with_reducible refine (bits_Pack.calls k4 a0 _ _ x12_4 t192 t193 _ ?side1 ?side2 A50.out).mono ?_); (case side1 => repeat (first | exact (Kd.R_reads' HO_12.out).2.2 | (with_reducible refine Kd.C_alloc ?_ _) | (with_reducible refine Kd.C_drewN ?_ _) | (with_reducible refine Kd.C_drew ?_))); (case side2 => exact (Kd.R_reads' HO_12.out).2.1); rintro e w58 ⟨v194, rfl, ho0, hb⟩; refine ⟨_, rfl, ?_⟩; have n0_ := Aside0.mk (Kd.V_elder' (by (with_reducible repeat (first | apply Kd.V_alloc | apply Kd.V_drewN | apply Kd.V_drew)); exact HO_1.out) (Kd.R_base ho0) hb); have n1_ := Aside0.mk (Kd.R_below (by (with_reducible repeat (first | apply Kd.R_alloc | apply Kd.R_drewN | apply Kd.R_drew)); exact HO_12.out) hb); have n2_ := Aside0.mk (Kd.V_elder' (by (with_reducible repeat (first | apply Kd.V_alloc | apply Kd.V_drewN | apply Kd.V_drew)); exact HO_81.out) (Kd.R_base ho0) hb); have n3_ := Aside0.mk (Kd.R_elder' (by (with_reducible repeat (first | apply Kd.R_alloc | apply Kd.R_drewN | apply Kd.R_drew)); exact HO188.out) (Kd.R_base ho0) hb); have n4_ := Aside0.mk (Kd.R_elder' (by (with_reducible repeat (first | apply Kd.R_alloc | apply Kd.R_drewN | apply Kd.R_drew)); exact HO191.out) (Kd.R_base ho0) hb); have n5_ := Aside0.mk (Kd.R_lower (Kd.R_new' (Kd.R_new' (Kd.R_newM (M := fun k_ => (w.heap.size ≤ k_)) ho0 (below_size (by repeat (first | (with_reducible first | exact HB.out | apply below_alloc | apply pw_below_drewN | apply below_drew1) | exact HB.out))) (fun k_ h_ => h_)) (Kd.R_lt (by (with_reducible repeat (first | apply Kd.R_alloc | apply Kd.R_drewN | apply Kd.R_drew)); exact HO188.out))) (Kd.R_lt (by (with_reducible repeat (first | apply Kd.R_alloc | apply Kd.R_drewN | apply Kd.R_drew)); exact HO191.out))) (below_size (by repeat (first | (with_reducible first | exact HB.out | apply below_alloc | apply pw_below_drewN | apply below_drew1) | exact HB.out)))); have n6_ := Aside0.mk (below_step (by repeat (first | (with_reducible first | exact HB.out | apply below_alloc | apply pw_below_drewN | apply below_drew1) | exact HB.out)) hb); clear HO_1; clear HO_12; clear HO_81; clear HO188; clear HO191; clear HB; have HO_1 := n0_; have HO_12 := n1_; have HO_81 := n2_; have HO188 := n3_; have HO191 := n4_; have HO195 := n5_; have HB := n6_; clear n0_ n1_ n2_ n3_ n4_ n5_ n6_; (try clear hb); (try clear hb2); (try clear hk); (try clear hi); (try clear ho0); obtain ⟨Ao60, co60, eo60⟩ := Kd.R_slice HO195.out; subst eo60) | ((with_reducible refine gate_builtin (b := .append) (xs := #[.tmp 109, .tmp 110]) rfl ?_); at_builtin; refine Kd.R_append_rows (Kd.int .u8) (w0 := w) w.heap.size rfl (.tmp 109) (.tmp 110) 37 5 (.int .u8 0) 1 rfl Try.underlying37 info5 rfl (by decide) (by omega) v190 y189 t192 _ _ _ (fun k_ => (w.heap.size ≤ k_) ∧ some k_ ≠ (.slice Ao57 t186.length co57 : Value).ownBlock ∧ some k_ ≠ (.slice Ao60 t192.length co60 : Value).ownBlock) (fun _ => False) rfl rfl ?aO ?aR (fun _ _ h => h) (fun _ h => h.elim) ?aF ?aB ?aS ?aL ?_; (case aR => repeat (first | exact (Kd.R_reads' HO195.out).2.2 | (with_reducible refine Kd.C_alloc ?_ _) | (with_reducible refine Kd.C_drewN ?_ _) | (with_reducible refine Kd.C_drew ?_))); (case aB => exact (by repeat (first | (with_reducible first | exact HB.out | apply below_alloc | apply pw_below_drewN | apply below_drew1) | exact HB.out))); (case aF => exact (fun k_ hk => ⟨(Nat.le_trans (below_size (by repeat (first | (with_reducible first | exact HB.out | apply below_alloc | apply pw_below_drewN | apply below_drew1) | exact HB.out))) hk), Kd.fresh' (Kd.R_lt (by (with_reducible repeat (first | apply Kd.R_alloc | apply Kd.R_drewN | apply Kd.R_drew)); exact HO188.out)) k_ hk, Kd.fresh' (Kd.R_lt (by (with_reducible repeat (first | apply Kd.R_alloc | apply Kd.R_drewN | apply Kd.R_drew)); exact HO195.out)) k_ hk⟩)); (case aO => exact (by (with_reducible repeat (first | apply Kd.R_alloc | apply Kd.R_drewN | apply Kd.R_drew)); exact Kd.R_mono HO191.out (fun _ hk => ⟨hk.1.1, ⟨hk.1.2, hk.2⟩⟩))); (case aS => exact (below_size (by repeat (first | (with_reducible first | exact HB.out | apply below_alloc | apply pw_below_drewN | apply below_drew1) | exact HB.out)))); (case aL => have := LMc51.out; omega); intro v197 w59 ho hb hg hat; rw [← Ny196.out] at ho; have n0_ := Aside0.mk (Kd.V_afterv (ok := (fun k_ => (P1_ k_ ∨ w.heap.size ≤ k_) ∧ some k_ ≠ (.slice Ao54 x12_4.length co54 : Value).ownBlock ∧ some k_ ≠ (.slice Ao57 t186.length co57 : Value).ownBlock ∧ some k_ ≠ (.slice Ao60 t192.length co60 : Value).ownBlock)) (by (with_reducible repeat (first | apply Kd.V_alloc | apply Kd.V_drewN | apply Kd.V_drew)); exact Kd.V_mono HO_1.out (fun _ hk => ⟨⟨hk.1.1.1, ⟨hk.1.1.2.1, ⟨hk.1.1.2.2, hk.2⟩⟩⟩, hk.1.2⟩)) hg hat); have n1_ := Aside0.mk (Kd.R_over' (by (with_reducible repeat (first | apply Kd.R_alloc | apply Kd.R_drewN | apply Kd.R_drew)); exact HO_12.out) (Kd.R_typed (by (with_reducible repeat (first | apply Kd.R_alloc | apply Kd.R_drewN | apply Kd.R_drew)); exact HO191.out)) (by decide) hg); have n2_ := Aside0.mk (Kd.V_afterv (ok := (fun k_ => (P1_ k_ ∨ w.heap.size ≤ k_) ∧ some k_ ≠ (.slice Ao54 x12_4.length co54 : Value).ownBlock ∧ some k_ ≠ (.slice Ao57 t186.length co57 : Value).ownBlock ∧ some k_ ≠ (.slice Ao60 t192.length co60 : Value).ownBlock)) (by (with_reducible repeat (first | apply Kd.V_alloc | apply Kd.V_drewN | apply Kd.V_drew)); exact Kd.V_mono HO_81.out (fun _ hk => ⟨⟨hk.1.1.1, ⟨hk.1.1.2.1, ⟨hk.1.1.2.2, hk.2⟩⟩⟩, hk.1.2⟩)) hg hat); have n3_ := Aside0.mk (Kd.R_after (ok := (fun k_ => (w.heap.size ≤ k_) ∧ some k_ ≠ (.slice Ao60 t192.length co60 : Value).ownBlock)) (by (with_reducible repeat (first | apply Kd.R_alloc | apply Kd.R_drewN | apply Kd.R_drew)); exact Kd.R_mono HO188.out (fun _ hk => ⟨⟨hk.1.1, hk.2⟩, hk.1.2⟩)) hg hat); have n4_ := Aside0.mk (Kd.R_after (ok := (fun k_ => (w.heap.size ≤ k_) ∧ some k_ ≠ (.slice Ao57 t186.length co57 : Value).ownBlock)) (by (with_reducible repeat (first | apply Kd.R_alloc | apply Kd.R_drewN | apply Kd.R_drew)); exact Kd.R_mono HO195.out (fun _ hk => ⟨⟨hk.1.1.1, hk.1.2⟩, hk.2⟩)) hg hat); have n5_ := Aside0.mk (hb); have n6_ := Aside0.mk (ho); clear HO_1; clear HO_12; clear HO_81; clear HO188; clear HO195; clear HB; clear HO191; have HO_1 := n0_; have HO_12 := n1_; have HO_81 := n2_; have HO188 := n3_; have HO195 := n4_; have HB := n5_; have HO198 := n6_; clear n0_ n1_ n2_ n3_ n4_ n5_ n6_; clear ho hb hg hat; have q61 : (t175 : Int) ≤ ((x1_3.length : Int) : Int) := of_decide_eq_true (by first | (with_reducible assumption) | assumption); obtain ⟨i061, hi061, _, hsz61, _⟩ := info_parts info3; have hroom61 : x1_3.length ≤ co37 := (Kd.V_reads' HO_1.out).2.1; have hC61 : Kd.F (Kd.int .i64) _ _ Ao37 x1_3.length x1_3 := (Kd.V_at (base := w.heap.size) HO_1.out).2.2; have q061 : (0 : Int) ≤ (t175 : Int) := of_decide_eq_true (by first | (with_reducible assumption) | assumption); have hcut61 := cut_from (P := Try.prog) 23 3 .i64 Try.underlying23 hi061 1 hsz61 Ao37 x1_3.length co37 t175 q061 q61; have hr61 := Kd.F_cut (m := (t175 : Int).toNat) (c := co37) hC61 (by omega) hroom61; obtain ⟨A61, hA61⟩ : ∃ A1, A1 = (if co37 = (t175 : Int).toNat then Ao37 else (Ao37 : Option Addr).map (·.add ((t175 : Int).toNat * 1))) := ⟨_, rfl⟩; obtain ⟨c61, hc61⟩ : ∃ c1, c1 = co37 - (t175 : Int).toNat := ⟨_, rfl⟩; have hy61 : y199.length = x1_3.length - (t175 : Int).toNat := (by rw [Ny199.out, List.length_drop] <;> omega); rw [show (x1_3).drop (t175 : Int).toNat = y199 from Ny199.out.symm] at hr61; replace hr61 : Kd.F (Kd.int .i64) _ _ A61 y199.length y199 := (by rw [hA61]; exact hr61); rw [← hy61, ← hA61, ← hc61] at hcut61; have HO203 := Aside0.mk (show Kd.V (Kd.int .i64) 3 _ w.heap.size _ (.slice A61 y199.length c61) y199 from Kd.V_mk (by rw [hy61, hc61]; exact Nat.sub_le_sub_right hroom61 _) hr61); have HC203 := Aside0.mk (show y199.length ≤ c61 from by rw [hy61, hc61]; exact Nat.sub_le_sub_right hroom61 _); clear hr61 hC61 hroom61 hi061 hsz61 hc61; have KY61 := Aside0.mk hy61; have KA61 := Aside0.mk hA61; clear hy61 hA61; replace q61 := eq_true q61))
                       go_roundg k4
                       case measure => have := HJ2.out; have := HK2.out; have := HK3.out; have := HK4.out; omega
                       case rel => exact ⟨(y199), (y196), H', ⟨by have := HJ2.out; have := HK2.out; have := HK3.out; have := HK4.out; omega⟩, ⟨by (with_reducible repeat (first | apply Kd.V_alloc | apply Kd.V_drewN | apply Kd.V_drew)); exact Kd.V_mono HO203.out (fun _ hk => ⟨hk.1.1, hk.2⟩)⟩, ⟨by (with_reducible repeat (first | apply Kd.R_alloc | apply Kd.R_drewN | apply Kd.R_drew)); exact Kd.R_mono HO198.out (fun _ hk => hk.1)⟩, ⟨by repeat (first | (with_reducible first | exact HB.out | apply below_alloc | apply pw_below_drewN | apply below_drew1) | exact HB.out)⟩⟩
                      ·rw [if_neg c53] at H
                       exact absurd H (by simp)
                     ·rw [if_neg c52] at H
                      exact absurd H (by simp)
                    ·rw [if_neg c51] at H
                     exact absurd H (by simp)
                   ·rw [if_neg c49] at H
                    exact absurd H (by simp)
               ·rw [if_neg c36] at H
                exact absurd H (by simp)
              ·rw [if_neg c35] at H
               exact absurd H (by simp)
             ·rw [if_neg c34] at H
              exact absurd H (by simp)
            ·rw [if_neg c33] at H
             exact absurd H (by simp)
          ·rw [if_neg c13] at H
           have c13b0 : decide (0 < (x1_3.length : Int)) = false := decide_eq_false c13
           have c13b1 : decide (0 < x1_3.length) = false := decide_eq_false (by omega)
           clear c13
           by_cases c62 : (x8_3.length : Int) > 1048576
           ·rw [if_pos c62] at H
            have c62b0 : decide (1048576 < (x8_3.length : Int)) = true := decide_eq_true c62
            have c62b1 : decide (1048576 < x8_3.length) = true := decide_eq_true (by omega)
            clear c62
            simp only [Option.some.injEq, Prod.mk.injEq] at H
            obtain ⟨rfl, rfl⟩ := H
            obtain ⟨Ao63, co63, eo63⟩ := Kd.V_slice HO_1.out
            subst eo63
            obtain ⟨Ao64, co64, eo64⟩ := Kd.R_slice HO_8.out
            subst eo64
            go_wp2
            go_ret2
            exact ⟨_, by first | rfl | (simp [errW_none, errW_some] <;> rfl) | (simp [*, errW_none, errW_some] <;> rfl), by first | exact Kd.R_nil _ _ _ _ _ | exact Kd.N_nil _ _ _ _ _ | exact Kd.V_nil _ _ _ _ _ | exact Kd.Q_nil _ _ _ _ _ | exact Kd.S_nil _ _ _ _ _, by repeat (first | (with_reducible first | exact HB.out | apply below_alloc | apply pw_below_drewN | apply below_drew1) | exact HB.out)⟩
           ·rw [if_neg c62] at H
            have c62b0 : decide (1048576 < (x8_3.length : Int)) = false := decide_eq_false c62
            have c62b1 : decide (1048576 < x8_3.length) = false := decide_eq_false (by omega)
            clear c62
            simp only [Option.some.injEq, Prod.mk.injEq] at H
            obtain ⟨rfl, rfl⟩ := H
            obtain ⟨Ao65, co65, eo65⟩ := Kd.V_slice HO_1.out
            subst eo65
            obtain ⟨Ao66, co66, eo66⟩ := Kd.R_slice HO_8.out
            subst eo66
            go_wp2
            go_ret2
            exact ⟨_, by first | rfl | (simp [errW_none, errW_some] <;> rfl) | (simp [*, errW_none, errW_some] <;> rfl), by (with_reducible repeat (first | apply Kd.R_alloc | apply Kd.R_drewN | apply Kd.R_drew)); exact HO_8.out, by repeat (first | (with_reducible first | exact HB.out | apply below_alloc | apply pw_below_drewN | apply below_drew1) | exact HB.out)⟩
end Go.Proofs.Ytpibhiacmceekaa.X
end

section
namespace Go.Proofs.Ytpibhiacmceekaa.X
open Go.RowKit Go.Proofs.YtpibhiacmceekaaW.PrintWords Go.Proofs.YtpibhiacmceekaaW.PrintLast Go.Proofs.YtpibhiacmceekaaW.PrintMore
attribute [local go_sem] max2_int min2_int max_two min_two max_three min_three max_four min_four
set_option linter.unusedVariables false
set_option linter.unusedSimpArgs false
def marquetryref01_Width.l0 : Nat → Int → Int → Option (Int)
 | 0, _, _ => none
 | k + 1, x0, x3 => if x0 > 0 then (marquetryref01_Width.l0 k (IntKind.u64.wrap (Int.tdiv x0 2)) (wrap64 (x3 + 1))) else (some x3)
def marquetryref01_Width.f (k : Nat) (a0 : Int) : Option (Int) := marquetryref01_Width.l0 k a0 0
theorem marquetryref01_Width.mono_l : ∀ k, (∀ y0 y1, LeO (marquetryref01_Width.l0 k y0 y1) (marquetryref01_Width.l0 (k + 1) y0 y1))
 | 0 => fun _ _ r h => by simp [marquetryref01_Width.l0] at h
 | k + 1 => by
  have ih0 := marquetryref01_Width.mono_l k
  ·intro y0 y1
   unfold marquetryref01_Width.l0
   repeat' first
   | (with_reducible exact ih0 _ _)
   | (with_reducible exact LeO.refl _)
   | (with_reducible exact LeO.none _)
   | (with_reducible refine LeO.ite ?_ ?_)
   | (with_reducible refine LeO.bind ?_ (fun _ => ?_))
   | exact ih0 _ _
   | exact LeO.none _
   | refine LeO.ite ?_ ?_
   | refine LeO.bind ?_ (fun _ => ?_)
theorem marquetryref01_Width.mono : ∀ a0 k, LeO (marquetryref01_Width.f k a0) (marquetryref01_Width.f (k + 1) a0) := by
 intro a0 k
 have ih0 := marquetryref01_Width.mono_l k
 unfold marquetryref01_Width.f
 repeat' first
   | (with_reducible exact ih0 _ _)
   | (with_reducible exact LeO.refl _)
   | (with_reducible exact LeO.none _)
   | (with_reducible refine LeO.ite ?_ ?_)
   | (with_reducible refine LeO.bind ?_ (fun _ => ?_))
   | exact ih0 _ _
   | exact LeO.none _
   | refine LeO.ite ?_ ?_
   | refine LeO.bind ?_ (fun _ => ?_)
set_option maxHeartbeats 8000000 in
set_option maxRecDepth 100000 in
theorem marquetryref01_Width.calls (k : Nat) (a0 : Int) (r : Int) (w : World) (h : marquetryref01_Width.f k a0 = some r) :
  Calls Try.prog 42 #[.int .u64 a0] w fun e w' => e = .returned (.int .i64 r) ∧ Drawn0 w w' := by
 have H : (marquetryref01_Width.l0 k a0 0) = some r := h
 clear h
 have H' := Aside0.mk H
 clear H
 go_enter Try.func42, Try.ntmps42
 go_wp2
 go_loopg [0, 3] k (fun kq v0 v3 w' => ∃ (x0_1 : Int) (x3_1 : Int), v0 = .int .u64 x0_1 ∧ v3 = .int .i64 x3_1 ∧ Aside0 (marquetryref01_Width.l0 kq x0_1 x3_1 = some r) ∧ Aside0 (kq ≤ k) ∧ Drawn0 w w')
 case atStart => exact ⟨(a0), (0), (by first | rfl | (simp; done) | (simp [*]; done)), (by first | rfl | (simp; done) | (simp [*]; done)), H', ⟨Nat.le_refl _⟩, by repeat (first | exact Drawn0.refl _ | apply Drawn0.step)⟩
 case round =>
  clear H'
  obtain ⟨x0_1, x3_1, rfl, rfl, HA, HK1, ⟨m1, rfl⟩⟩ := hrel
  cases gk with
  | zero => exact absurd HA.out (by simp [marquetryref01_Width.l0])
  | succ k1 =>
   have H := HA.out
   clear HA
   simp only [marquetryref01_Width.l0] at H
   by_cases c2 : x0_1 > 0
   ·rw [if_pos c2] at H
    have c2b0 : decide (0 < x0_1) = true := decide_eq_true c2
    clear c2
    have H' := Aside0.mk H
    clear H
    go_wp2
    go_roundg k1
    case measure => have := HK1.out; omega
    case rel => exact ⟨(IntKind.u64.wrap (Int.tdiv x0_1 2)), (wrap64 (x3_1 + 1)), (by first | rfl | (simp; done) | (simp [*]; done)), (by first | rfl | (simp; done) | (simp [*]; done)), H', ⟨by have := HK1.out; omega⟩, by repeat (first | exact Drawn0.refl _ | apply Drawn0.step)⟩
   ·rw [if_neg c2] at H
    have c2b0 : decide (0 < x0_1) = false := decide_eq_false c2
    clear c2
    obtain rfl := Option.some.inj H
    go_wp2
    go_ret
    exact ⟨by first | rfl | (simp; done) | (simp [*]; done), by repeat (first | exact Drawn0.refl _ | apply Drawn0.step)⟩
end Go.Proofs.Ytpibhiacmceekaa.X
end

section
namespace Go.Proofs.Ytpibhiacmceekaa.X
open Go.RowKit Go.Proofs.YtpibhiacmceekaaW.PrintWords Go.Proofs.YtpibhiacmceekaaW.PrintLast Go.Proofs.YtpibhiacmceekaaW.PrintMore
attribute [local go_sem] max2_int min2_int max_two min_two max_three min_three max_four min_four
set_option linter.unusedVariables false
set_option linter.unusedSimpArgs false
mutual
def marquetryref01_Little.j0 : Nat → Int → Int → Bool → Option (List Int × Int)
 | 0, _, _, _ => none
 | k + 1, x0, x1, x20 => if x20 = true then (some (([] : List Int), 2)) else (marquetryref01_Little.l0 k x0 x1 ([] : List Int) 0)
def marquetryref01_Little.l0 : Nat → Int → Int → List Int → Int → Option (List Int × Int)
 | 0, _, _, _, _ => none
 | k + 1, x0, x1, x6, x7 => if x7 < x1 then (if x6.length < 140737488355328 then (marquetryref01_Little.l0 k (IntKind.u64.wrap (Int.tdiv x0 256)) x1 (x6 ++ [(Int.tmod x0 256) % 256]) (wrap64 (x7 + 1))) else (none)) else (some (x6, 0))
end
def marquetryref01_Little.f (k : Nat) (a0 : Int) (a1 : Int) : Option (List Int × Int) := if a1 < 0 then (marquetryref01_Little.j0 k a0 a1 true) else (if a1 > 8 then (marquetryref01_Little.j0 k a0 a1 true) else ((marquetryref01_Width.f k a0).bind fun t204 => (marquetryref01_Little.j0 k a0 a1 (decide (t204 > (wrap64 (8 * a1)))))))
theorem marquetryref01_Little.mono_l : ∀ k, (∀ y0 y1 y2, LeO (marquetryref01_Little.j0 k y0 y1 y2) (marquetryref01_Little.j0 (k + 1) y0 y1 y2)) ∧ (∀ y0 y1 y2 y3, LeO (marquetryref01_Little.l0 k y0 y1 y2 y3) (marquetryref01_Little.l0 (k + 1) y0 y1 y2 y3))
 | 0 => ⟨fun _ _ _ r h => by simp [marquetryref01_Little.j0] at h, fun _ _ _ _ r h => by simp [marquetryref01_Little.l0] at h⟩
 | k + 1 => by
  obtain ⟨ih0, ih1⟩ := marquetryref01_Little.mono_l k
  refine ⟨?_, ?_⟩
  ·intro y0 y1 y2
   unfold marquetryref01_Little.j0
   repeat' first
   | (with_reducible exact ih0 _ _ _)
   | (with_reducible exact ih1 _ _ _ _)
   | (with_reducible exact marquetryref01_Width.mono _ _)
   | (with_reducible exact LeO.refl _)
   | (with_reducible exact LeO.none _)
   | (with_reducible refine LeO.ite ?_ ?_)
   | (with_reducible refine LeO.bind ?_ (fun _ => ?_))
   | exact ih0 _ _ _
   | exact ih1 _ _ _ _
   | exact marquetryref01_Width.mono _ _
   | exact LeO.none _
   | refine LeO.ite ?_ ?_
   | refine LeO.bind ?_ (fun _ => ?_)
  ·intro y0 y1 y2 y3
   unfold marquetryref01_Little.l0
   repeat' first
   | (with_reducible exact ih0 _ _ _)
   | (with_reducible exact ih1 _ _ _ _)
   | (with_reducible exact marquetryref01_Width.mono _ _)
   | (with_reducible exact LeO.refl _)
   | (with_reducible exact LeO.none _)
   | (with_reducible refine LeO.ite ?_ ?_)
   | (with_reducible refine LeO.bind ?_ (fun _ => ?_))
   | exact ih0 _ _ _
   | exact ih1 _ _ _ _
   | exact marquetryref01_Width.mono _ _
   | exact LeO.none _
   | refine LeO.ite ?_ ?_
   | refine LeO.bind ?_ (fun _ => ?_)
theorem marquetryref01_Little.mono : ∀ a0 a1 k, LeO (marquetryref01_Little.f k a0 a1) (marquetryref01_Little.f (k + 1) a0 a1) := by
 intro a0 a1 k
 obtain ⟨ih0, ih1⟩ := marquetryref01_Little.mono_l k
 unfold marquetryref01_Little.f
 repeat' first
   | (with_reducible exact ih0 _ _ _)
   | (with_reducible exact ih1 _ _ _ _)
   | (with_reducible exact marquetryref01_Width.mono _ _)
   | (with_reducible exact LeO.refl _)
   | (with_reducible exact LeO.none _)
   | (with_reducible refine LeO.ite ?_ ?_)
   | (with_reducible refine LeO.bind ?_ (fun _ => ?_))
   | exact ih0 _ _ _
   | exact ih1 _ _ _ _
   | exact marquetryref01_Width.mono _ _
   | exact LeO.none _
   | refine LeO.ite ?_ ?_
   | refine LeO.bind ?_ (fun _ => ?_)
set_option maxHeartbeats 8000000 in
set_option maxRecDepth 100000 in
theorem marquetryref01_Little.calls (k : Nat) (a0 : Int) (a1 : Int) (r1 : List Int) (r2 : Int) (w : World) (h : marquetryref01_Little.f k a0 a1 = some (r1, r2)) :
  Calls Try.prog 48 #[.int .u64 a0, .int .i64 a1] w fun e w' => ∃ v0_ : Value, e = .returned (.tuple #[v0_, .int .i64 r2]) ∧ Kd.R (Kd.int .u8) 5 w' w.heap.size (fun _ => True) v0_ r1 ∧ Below w.heap.size w w' := by
 have HB := Aside0.mk (Below.refl w.heap.size w)
 have H : (if a1 < 0 then (marquetryref01_Little.j0 k a0 a1 true) else (if a1 > 8 then (marquetryref01_Little.j0 k a0 a1 true) else ((marquetryref01_Width.f k a0).bind fun t204 => (marquetryref01_Little.j0 k a0 a1 (decide (t204 > (wrap64 (8 * a1)))))))) = some (r1, r2) := h
 clear h
 have HC3 := Aside0.mk H
 clear H
 go_enter Try.func48, Try.ntmps48
 go_upto_region 1 with (fail)
 go_cut [20] (fun v20 wc => ∃ (kq : Nat) (x20_2 : Bool), v20 = .bool x20_2 ∧ Aside0 (marquetryref01_Little.j0 kq a0 a1 x20_2 = some (r1, r2)) ∧ Aside0 (kq ≤ k) ∧ Aside0 (Below w.heap.size w wc))
 case first =>
  have H := HC3.out
  clear HC3
  by_cases c4 : a1 < 0
  ·rw [if_pos c4] at H
   have c4b0 : decide (a1 < 0) = true := decide_eq_true c4
   clear c4
   (first | rw [c4b0] | (simp only [i64_w, i32_w]; rw [c4b0]) | skip)
   have H' := Aside0.mk H
   clear H
   go_wp2
   go_meet
   case rel => exact ⟨_, (true), (by first | rfl | (simp; done) | (simp [*]; done)), H', ⟨by first | omega | exact Nat.le_refl _⟩, ⟨by repeat (first | (with_reducible first | exact HB.out | apply below_alloc | apply pw_below_drewN | apply below_drew1) | exact HB.out)⟩⟩
  ·rw [if_neg c4] at H
   have c4b0 : decide (a1 < 0) = false := decide_eq_false c4
   clear c4
   (first | rw [c4b0] | (simp only [i64_w, i32_w]; rw [c4b0]) | skip)
   by_cases c5 : a1 > 8
   ·rw [if_pos c5] at H
    have c5b0 : decide (8 < a1) = true := decide_eq_true c5
    clear c5
    have H' := Aside0.mk H
    clear H
    go_wp2
    go_meet
    case rel => exact ⟨_, (true), (by first | rfl | (simp; done) | (simp [*]; done)), H', ⟨by first | omega | exact Nat.le_refl _⟩, ⟨by repeat (first | (with_reducible first | exact HB.out | apply below_alloc | apply pw_below_drewN | apply below_drew1) | exact HB.out)⟩⟩
   ·rw [if_neg c5] at H
    have c5b0 : decide (8 < a1) = false := decide_eq_false c5
    clear c5
    replace H := Option.bind_eq_some_iff.mp H
    obtain ⟨t204, A60, H⟩ := H
    replace H : (marquetryref01_Little.j0 k a0 a1 (decide (t204 > (wrap64 (8 * a1))))) = some (r1, r2) := H
    have A6 := Aside0.mk A60
    clear A60
    have H' := Aside0.mk H
    clear H
    go_wp2_with (first | (go_at_call 42; (with_reducible refine (marquetryref01_Width.calls k a0 t204 _ A6.out).mono ?_); rintro e w' ⟨rfl, ⟨nd, rfl⟩⟩))
    go_meet
    case rel => exact ⟨_, (decide (t204 > (wrap64 (8 * a1)))), (by first | rfl | (simp; done) | (simp [*]; done)), H', ⟨by first | omega | exact Nat.le_refl _⟩, ⟨by repeat (first | (with_reducible first | exact HB.out | apply below_alloc | apply pw_below_drewN | apply below_drew1) | exact HB.out)⟩⟩
 case rest =>
  clear HC3
  try clear p2
  try clear c4
  try clear c4b0
  try clear c5
  try clear c5b0
  try clear p6
  obtain ⟨kq, x20_2, rfl, HA, HJ2, HB⟩ := hcut
  cases kq with
  | zero => exact absurd HA.out (by simp [marquetryref01_Little.j0])
  | succ kj2 =>
   have H := HA.out
   clear HA
   simp only [marquetryref01_Little.j0] at H
   by_cases c7 : x20_2 = true
   ·subst c7
    have H1 : (some (([] : List Int), 2)) = some (r1, r2) := by rw [if_pos rfl] at H; exact H
    clear H
    have H := H1
    clear H1
    simp only [Option.some.injEq, Prod.mk.injEq] at H
    obtain ⟨rfl, rfl⟩ := H
    go_wp2
    go_ret2
    exact ⟨_, by first | rfl | (simp [errW_none, errW_some] <;> rfl) | (simp [*, errW_none, errW_some] <;> rfl), by first | exact Kd.R_nil _ _ _ _ _ | exact Kd.N_nil _ _ _ _ _ | exact Kd.V_nil _ _ _ _ _ | exact Kd.Q_nil _ _ _ _ _ | exact Kd.S_nil _ _ _ _ _, by repeat (first | (with_reducible first | exact HB.out | apply below_alloc | apply pw_below_drewN | apply below_drew1) | exact HB.out)⟩
   ·replace c7 := Bool.eq_false_iff.mpr c7
    subst c7
    have H1 : (marquetryref01_Little.l0 kj2 a0 a1 ([] : List Int) 0) = some (r1, r2) := by rw [if_neg (show ¬ (false = true) by decide)] at H; exact H
    clear H
    have H := H1
    clear H1
    have H' := Aside0.mk H
    clear H
    go_wp2
    go_loopg [0, 6, 7] kj2 (fun kq v0 v6 v7 w' => ∃ (x0_2 : Int) (x6_2 : List Int) (x7_2 : Int), v0 = .int .u64 x0_2 ∧ v7 = .int .i64 x7_2 ∧ Aside0 (marquetryref01_Little.l0 kq x0_2 a1 x6_2 x7_2 = some (r1, r2)) ∧ Aside0 (kq ≤ kj2) ∧ Aside0 (Kd.R (Kd.int .u8) 5 w' w.heap.size (fun _ => True) v6 x6_2) ∧ Aside0 (Below w.heap.size w w'))
    case atStart => exact ⟨(a0), (([] : List Int)), (0), (by first | rfl | (simp; done) | (simp [*]; done)), (by first | rfl | (simp; done) | (simp [*]; done)), H', ⟨Nat.le_refl _⟩, ⟨by first | exact Kd.R_nil _ _ _ _ _ | exact Kd.N_nil _ _ _ _ _ | exact Kd.V_nil _ _ _ _ _ | exact Kd.Q_nil _ _ _ _ _ | exact Kd.S_nil _ _ _ _ _⟩, ⟨by repeat (first | (with_reducible first | exact HB.out | apply below_alloc | apply pw_below_drewN | apply below_drew1) | exact HB.out)⟩⟩
    case round =>
     clear H'
     try clear p2
     try clear c4
     try clear c4b0
     try clear c5
     try clear c5b0
     try clear p6
     try clear c7
     try clear p2
     try clear p6
     obtain ⟨x0_2, x6_2, x7_2, rfl, rfl, HA, HK2, HO_6, HB⟩ := hrel
     cases gk with
     | zero => exact absurd HA.out (by simp [marquetryref01_Little.l0])
     | succ k2 =>
      have H := HA.out
      clear HA
      simp only [marquetryref01_Little.l0] at H
      by_cases c8 : x7_2 < a1
      ·rw [if_pos c8] at H
       have c8b0 : decide (x7_2 < a1) = true := decide_eq_true c8
       clear c8
       by_cases c9 : x6_2.length < 140737488355328
       ·rw [if_pos c9] at H
        have LMc9 := Aside0.mk c9
        clear c9
        obtain ⟨y205, hy205⟩ : ∃ y_ : List Int, y_ = (x6_2 ++ [(Int.tmod x0_2 256) % 256]) := ⟨_, rfl⟩
        replace H : (marquetryref01_Little.l0 k2 (IntKind.u64.wrap (Int.tdiv x0_2 256)) a1 y205 (wrap64 (x7_2 + 1))) = some (r1, r2) := by first | (rw [hy205]; with_reducible exact H) | (have H2_ := (Option.bind_some _ _).symm.trans H; rw [hy205]; with_reducible exact H2_) | (have H2_ := (Option.bind_some _ _).symm.trans H; with_reducible exact H2_) | with_reducible exact H | (rw [hy205]; exact H) | exact H
        have Ny205 := Aside0.mk hy205
        clear hy205
        have H' := Aside0.mk H
        clear H
        go_wp2_with (first | ((with_reducible refine gate_builtin (b := .append) (xs := #[.tmp 26, .tmp 30]) rfl ?_); at_builtin; refine Kd.R_append (Kd.int .u8) (w0 := w) w.heap.size rfl (.tmp 26) (.tmp 30) 37 5 (.int .u8 0) 1 rfl Try.underlying37 info5 rfl (by decide) (by omega) u6 x6_2 ((Int.tmod x0_2 256) % 256) [.int .u8 ((Int.tmod x0_2 256) % 256)] (fun _ => True) (fun _ => False) rfl rfl ?aP (fun _ hk => hk.elim) ?aF ?aO ?aB ?aS ?aL ?_; (case aP => exact rfl); (case aB => exact (by repeat (first | (with_reducible first | exact HB.out | apply below_alloc | apply pw_below_drewN | apply below_drew1) | exact HB.out))); (case aF => exact (fun _ _ => trivial)); (case aO => exact (by (with_reducible repeat (first | apply Kd.R_alloc | apply Kd.R_drewN | apply Kd.R_drew)); exact HO_6.out)); (case aS => exact (below_size (by repeat (first | (with_reducible first | exact HB.out | apply below_alloc | apply pw_below_drewN | apply below_drew1) | exact HB.out)))); (case aL => have := LMc9.out; omega); intro v206 w10 ho hb hg hat; rw [← Ny205.out] at ho; have n0_ := Aside0.mk (hb); have n1_ := Aside0.mk (ho); clear HB; clear HO_6; have HB := n0_; have HO207 := n1_; clear n0_ n1_; clear ho hb hg hat))
        go_roundg k2
        case measure => have := HJ2.out; have := HK2.out; omega
        case rel => exact ⟨(IntKind.u64.wrap (Int.tdiv x0_2 256)), (y205), (wrap64 (x7_2 + 1)), (by first | rfl | (simp; done) | (simp [*]; done)), (by first | rfl | (simp; done) | (simp [*]; done)), H', ⟨by have := HJ2.out; have := HK2.out; omega⟩, ⟨by (with_reducible repeat (first | apply Kd.R_alloc | apply Kd.R_drewN | apply Kd.R_drew)); exact HO207.out⟩, ⟨by repeat (first | (with_reducible first | exact HB.out | apply below_alloc | apply pw_below_drewN | apply below_drew1) | exact HB.out)⟩⟩
       ·rw [if_neg c9] at H
        exact absurd H (by simp)
      ·rw [if_neg c8] at H
       have c8b0 : decide (x7_2 < a1) = false := decide_eq_false c8
       clear c8
       simp only [Option.some.injEq, Prod.mk.injEq] at H
       obtain ⟨rfl, rfl⟩ := H
       go_wp2
       go_ret2
       exact ⟨_, by first | rfl | (simp [errW_none, errW_some] <;> rfl) | (simp [*, errW_none, errW_some] <;> rfl), by (with_reducible repeat (first | apply Kd.R_alloc | apply Kd.R_drewN | apply Kd.R_drew)); exact HO_6.out, by repeat (first | (with_reducible first | exact HB.out | apply below_alloc | apply pw_below_drewN | apply below_drew1) | exact HB.out)⟩
end Go.Proofs.Ytpibhiacmceekaa.X
end

section
namespace Go.Proofs.Ytpibhiacmceekaa.X
open Go.RowKit Go.Proofs.YtpibhiacmceekaaW.PrintWords Go.Proofs.YtpibhiacmceekaaW.PrintLast Go.Proofs.YtpibhiacmceekaaW.PrintMore
attribute [local go_sem] max2_int min2_int max_two min_two max_three min_three max_four min_four
set_option linter.unusedVariables false
set_option linter.unusedSimpArgs false
mutual
def bits_ReadLittle.j0 : Nat → List Int → Int → Int → Bool → Option (Int × Int)
 | 0, _, _, _, _ => none
 | k + 1, x0, x1, x2, x10 => if x10 = true then (some (0, 2)) else (if x2 > (wrap64 ((x0.length : Int) - x1)) then (some (0, 6)) else (bits_ReadLittle.l0 k x0 x1 0 x2 0))
def bits_ReadLittle.l0 : Nat → List Int → Int → Int → Int → Int → Option (Int × Int)
 | 0, _, _, _, _, _ => none
 | k + 1, x0, x1, x8, x34, x35 => if x35 < x34 then (if 0 ≤ (wrap64 (x1 + x35)) then (if (wrap64 (x1 + x35)) < (x0.length : Int) then (if 0 ≤ (wrap64 (8 * x35)) then (bits_ReadLittle.l0 k x0 x1 (Go.bits .or .u64 x8 (shl .u64 (IntKind.u64.wrap (rd x0 (wrap64 (x1 + x35)))) (wrap64 (8 * x35)))) x34 (wrap64 (x35 + 1))) else (none)) else (none)) else (none)) else (some (x8, 0))
end
def bits_ReadLittle.f (k : Nat) (l0 : List Int) (a1 : Int) (a2 : Int) : Option (Int × Int) := if a2 < 0 then (bits_ReadLittle.j0 k l0 a1 a2 true) else (if a2 > 8 then (bits_ReadLittle.j0 k l0 a1 a2 true) else (if a1 < 0 then (bits_ReadLittle.j0 k l0 a1 a2 true) else (bits_ReadLittle.j0 k l0 a1 a2 (decide (a1 > (l0.length : Int))))))
theorem bits_ReadLittle.mono_l : ∀ k, (∀ y0 y1 y2 y3, LeO (bits_ReadLittle.j0 k y0 y1 y2 y3) (bits_ReadLittle.j0 (k + 1) y0 y1 y2 y3)) ∧ (∀ y0 y1 y2 y3 y4, LeO (bits_ReadLittle.l0 k y0 y1 y2 y3 y4) (bits_ReadLittle.l0 (k + 1) y0 y1 y2 y3 y4))
 | 0 => ⟨fun _ _ _ _ r h => by simp [bits_ReadLittle.j0] at h, fun _ _ _ _ _ r h => by simp [bits_ReadLittle.l0] at h⟩
 | k + 1 => by
  obtain ⟨ih0, ih1⟩ := bits_ReadLittle.mono_l k
  refine ⟨?_, ?_⟩
  ·intro y0 y1 y2 y3
   unfold bits_ReadLittle.j0
   repeat' first
   | (with_reducible exact ih0 _ _ _ _)
   | (with_reducible exact ih1 _ _ _ _ _)
   | (with_reducible exact LeO.refl _)
   | (with_reducible exact LeO.none _)
   | (with_reducible refine LeO.ite ?_ ?_)
   | (with_reducible refine LeO.bind ?_ (fun _ => ?_))
   | exact ih0 _ _ _ _
   | exact ih1 _ _ _ _ _
   | exact LeO.none _
   | refine LeO.ite ?_ ?_
   | refine LeO.bind ?_ (fun _ => ?_)
  ·intro y0 y1 y2 y3 y4
   unfold bits_ReadLittle.l0
   repeat' first
   | (with_reducible exact ih0 _ _ _ _)
   | (with_reducible exact ih1 _ _ _ _ _)
   | (with_reducible exact LeO.refl _)
   | (with_reducible exact LeO.none _)
   | (with_reducible refine LeO.ite ?_ ?_)
   | (with_reducible refine LeO.bind ?_ (fun _ => ?_))
   | exact ih0 _ _ _ _
   | exact ih1 _ _ _ _ _
   | exact LeO.none _
   | refine LeO.ite ?_ ?_
   | refine LeO.bind ?_ (fun _ => ?_)
theorem bits_ReadLittle.mono : ∀ a0 a1 a2 k, LeO (bits_ReadLittle.f k a0 a1 a2) (bits_ReadLittle.f (k + 1) a0 a1 a2) := by
 intro a0 a1 a2 k
 obtain ⟨ih0, ih1⟩ := bits_ReadLittle.mono_l k
 unfold bits_ReadLittle.f
 repeat' first
   | (with_reducible exact ih0 _ _ _ _)
   | (with_reducible exact ih1 _ _ _ _ _)
   | (with_reducible exact LeO.refl _)
   | (with_reducible exact LeO.none _)
   | (with_reducible refine LeO.ite ?_ ?_)
   | (with_reducible refine LeO.bind ?_ (fun _ => ?_))
   | exact ih0 _ _ _ _
   | exact ih1 _ _ _ _ _
   | exact LeO.none _
   | refine LeO.ite ?_ ?_
   | refine LeO.bind ?_ (fun _ => ?_)
set_option maxHeartbeats 8000000 in
set_option maxRecDepth 100000 in
theorem bits_ReadLittle.calls (k : Nat) (A0 : Option Addr) (c0 : Nat) (l0 : List Int) (a1 : Int) (a2 : Int) (r1 : Int) (r2 : Int) (w : World) (hr0 : Kd.C (Kd.int .u8) w A0 l0.length l0) (hc0 : l0.length ≤ c0) (h : bits_ReadLittle.f k l0 a1 a2 = some (r1, r2)) :
  Calls Try.prog 50 #[.slice A0 l0.length c0, .int .i64 a1, .int .i64 a2] w fun e w' => e = .returned (.tuple #[.int .u64 r1, .int .i64 r2]) ∧ Drawn0 w w' := by
 have HR0 := Aside0.mk hr0
 have HC0 := Aside0.mk hc0
 clear hr0 hc0
 have H : (if a2 < 0 then (bits_ReadLittle.j0 k l0 a1 a2 true) else (if a2 > 8 then (bits_ReadLittle.j0 k l0 a1 a2 true) else (if a1 < 0 then (bits_ReadLittle.j0 k l0 a1 a2 true) else (bits_ReadLittle.j0 k l0 a1 a2 (decide (a1 > (l0.length : Int))))))) = some (r1, r2) := h
 clear h
 have HC4 := Aside0.mk H
 clear H
 go_enter Try.func50, Try.ntmps50
 go_upto_region 1 with (fail)
 go_cut [10] (fun v10 wc => ∃ (kq : Nat) (x10_3 : Bool), v10 = .bool x10_3 ∧ Aside0 (bits_ReadLittle.j0 kq l0 a1 a2 x10_3 = some (r1, r2)) ∧ Aside0 (kq ≤ k) ∧ Drawn0 w wc)
 case first =>
  have H := HC4.out
  clear HC4
  by_cases c5 : a2 < 0
  ·rw [if_pos c5] at H
   have c5b0 : decide (a2 < 0) = true := decide_eq_true c5
   clear c5
   (first | rw [c5b0] | (simp only [i64_w, i32_w]; rw [c5b0]) | skip)
   have H' := Aside0.mk H
   clear H
   go_wp2
   go_meet
   case rel => exact ⟨_, (true), (by first | rfl | (simp; done) | (simp [*]; done)), H', ⟨by first | omega | exact Nat.le_refl _⟩, by repeat (first | exact Drawn0.refl _ | apply Drawn0.step)⟩
  ·rw [if_neg c5] at H
   have c5b0 : decide (a2 < 0) = false := decide_eq_false c5
   clear c5
   (first | rw [c5b0] | (simp only [i64_w, i32_w]; rw [c5b0]) | skip)
   by_cases c6 : a2 > 8
   ·rw [if_pos c6] at H
    have c6b0 : decide (8 < a2) = true := decide_eq_true c6
    clear c6
    have H' := Aside0.mk H
    clear H
    go_wp2
    go_meet
    case rel => exact ⟨_, (true), (by first | rfl | (simp; done) | (simp [*]; done)), H', ⟨by first | omega | exact Nat.le_refl _⟩, by repeat (first | exact Drawn0.refl _ | apply Drawn0.step)⟩
   ·rw [if_neg c6] at H
    have c6b0 : decide (8 < a2) = false := decide_eq_false c6
    clear c6
    by_cases c7 : a1 < 0
    ·rw [if_pos c7] at H
     have c7b0 : decide (a1 < 0) = true := decide_eq_true c7
     clear c7
     have H' := Aside0.mk H
     clear H
     go_wp2
     go_meet
     case rel => exact ⟨_, (true), (by first | rfl | (simp; done) | (simp [*]; done)), H', ⟨by first | omega | exact Nat.le_refl _⟩, by repeat (first | exact Drawn0.refl _ | apply Drawn0.step)⟩
    ·rw [if_neg c7] at H
     have c7b0 : decide (a1 < 0) = false := decide_eq_false c7
     clear c7
     have H' := Aside0.mk H
     clear H
     go_wp2
     go_meet
     case rel => exact ⟨_, (decide (a1 > (l0.length : Int))), (by first | rfl | (simp; done) | (simp [*]; done)), H', ⟨by first | omega | exact Nat.le_refl _⟩, by repeat (first | exact Drawn0.refl _ | apply Drawn0.step)⟩
 case rest =>
  clear HC4
  try clear p2
  try clear c5
  try clear c5b0
  try clear c6
  try clear c6b0
  try clear c7
  try clear c7b0
  obtain ⟨kq, x10_3, rfl, HA, HJ3, ⟨mc3, rfl⟩⟩ := hcut
  cases kq with
  | zero => exact absurd HA.out (by simp [bits_ReadLittle.j0])
  | succ kj3 =>
   have H := HA.out
   clear HA
   simp only [bits_ReadLittle.j0] at H
   by_cases c8 : x10_3 = true
   ·subst c8
    have H1 : (some (0, 2)) = some (r1, r2) := by rw [if_pos rfl] at H; exact H
    clear H
    have H := H1
    clear H1
    simp only [Option.some.injEq, Prod.mk.injEq] at H
    obtain ⟨rfl, rfl⟩ := H
    go_wp2
    go_ret2
    exact ⟨by first | rfl | (simp; done) | (simp [*]; done), by repeat (first | exact Drawn0.refl _ | apply Drawn0.step)⟩
   ·replace c8 := Bool.eq_false_iff.mpr c8
    subst c8
    have H1 : (if a2 > (wrap64 ((l0.length : Int) - a1)) then (some (0, 6)) else (bits_ReadLittle.l0 kj3 l0 a1 0 a2 0)) = some (r1, r2) := by rw [if_neg (show ¬ (false = true) by decide)] at H; exact H
    clear H
    have H := H1
    clear H1
    by_cases c9 : a2 > (wrap64 ((l0.length : Int) - a1))
    ·rw [if_pos c9] at H
     have c9b0 : decide ((wrap64 ((l0.length : Int) - a1)) < a2) = true := decide_eq_true c9
     clear c9
     simp only [Option.some.injEq, Prod.mk.injEq] at H
     obtain ⟨rfl, rfl⟩ := H
     go_wp2
     go_ret2
     exact ⟨by first | rfl | (simp; done) | (simp [*]; done), by repeat (first | exact Drawn0.refl _ | apply Drawn0.step)⟩
    ·rw [if_neg c9] at H
     have c9b0 : decide ((wrap64 ((l0.length : Int) - a1)) < a2) = false := decide_eq_false c9
     clear c9
     have H' := Aside0.mk H
     clear H
     go_wp2
     go_loopg [8, 35] kj3 (fun kq v8 v35 w' => ∃ (x8_2 : Int) (x35_2 : Int), v8 = .int .u64 x8_2 ∧ v35 = .int .i64 x35_2 ∧ Aside0 (bits_ReadLittle.l0 kq l0 a1 x8_2 a2 x35_2 = some (r1, r2)) ∧ Aside0 (kq ≤ kj3) ∧ Drawn0 w w')
     case atStart => exact ⟨(0), (0), (by first | rfl | (simp; done) | (simp [*]; done)), (by first | rfl | (simp; done) | (simp [*]; done)), H', ⟨Nat.le_refl _⟩, by repeat (first | exact Drawn0.refl _ | apply Drawn0.step)⟩
     case round =>
      clear H'
      try clear p2
      try clear c3
      try clear c5
      try clear c5b0
      try clear c6
      try clear c6b0
      try clear p6
      try clear c7
      try clear c7b0
      try clear c8
      try clear c9
      try clear c9b0
      try clear p2
      obtain ⟨x8_2, x35_2, rfl, rfl, HA, HK2, ⟨m2, rfl⟩⟩ := hrel
      cases gk with
      | zero => exact absurd HA.out (by simp [bits_ReadLittle.l0])
      | succ k2 =>
       have H := HA.out
       clear HA
       simp only [bits_ReadLittle.l0] at H
       by_cases c10 : x35_2 < a2
       ·rw [if_pos c10] at H
        have c10b0 : decide (x35_2 < a2) = true := decide_eq_true c10
        clear c10
        obtain ⟨ji11, hji11⟩ : ∃ j_ : Int, (wrap64 (a1 + x35_2)) = j_ := ⟨_, rfl⟩
        replace H : (if 0 ≤ (ji11) then (if (ji11) < (l0.length : Int) then (if 0 ≤ (wrap64 (8 * x35_2)) then (bits_ReadLittle.l0 k2 l0 a1 (Go.bits .or .u64 x8_2 (shl .u64 (IntKind.u64.wrap (rd l0 (ji11))) (wrap64 (8 * x35_2)))) a2 (wrap64 (x35_2 + 1))) else (none)) else (none)) else (none)) = some (r1, r2) := by first | (rw [hji11] at H; exact H) | (simp only [hji11] at H ⊢; exact H)
        have hji11w : (IntKind.i64.wrap (a1 + x35_2)) = ji11 := (i64_w _).trans hji11
        by_cases c12 : 0 ≤ (ji11)
        ·rw [if_pos c12] at H
         have c12b0 : decide (0 ≤ (ji11)) = true := decide_eq_true c12
         clear c12
         by_cases c13 : (ji11) < (l0.length : Int)
         ·rw [if_pos c13] at H
          have c13b0 : decide ((ji11) < (l0.length : Int)) = true := decide_eq_true c13
          clear c13
          obtain ⟨ji14, hji14⟩ : ∃ j_ : Int, (wrap64 (8 * x35_2)) = j_ := ⟨_, rfl⟩
          replace H : (if 0 ≤ (ji14) then (bits_ReadLittle.l0 k2 l0 a1 (Go.bits .or .u64 x8_2 (shl .u64 (IntKind.u64.wrap (rd l0 (ji11))) (ji14))) a2 (wrap64 (x35_2 + 1))) else (none)) = some (r1, r2) := by first | (rw [hji14] at H; exact H) | (simp only [hji14] at H ⊢; exact H)
          have hji14w : (IntKind.i64.wrap (8 * x35_2)) = ji14 := (i64_w _).trans hji14
          by_cases c15 : 0 ≤ (ji14)
          ·rw [if_pos c15] at H
           have c15b0 := eq_true c15
           have c15b1 : decide (0 ≤ (ji14)) = true := decide_eq_true c15
           clear c15
           obtain ⟨ji16, hji16⟩ : ∃ j_ : Int, (shl .u64 (IntKind.u64.wrap (rd l0 (ji11))) (ji14)) = j_ := ⟨_, rfl⟩
           replace H : (bits_ReadLittle.l0 k2 l0 a1 (Go.bits .or .u64 x8_2 (ji16)) a2 (wrap64 (x35_2 + 1))) = some (r1, r2) := by first | (rw [hji16] at H; exact H) | (simp only [hji16] at H ⊢; exact H)
           have hji16_ : (IntKind.u64.wrap ((IntKind.u64.wrap (rd l0 (ji11))) * 2 ^ min (ji14).toNat 64)) = ji16 := hji16
           have hji16z : (ji14) ≤ 64 → (IntKind.u64.wrap ((IntKind.u64.wrap (rd l0 (ji11))) * 2 ^ (ji14).toNat)) = ji16 := shl_small hji16
           have H' := Aside0.mk H
           clear H
           have p358 : 0 ≤ ((ji11) : Int) := of_decide_eq_true (by first | (with_reducible assumption) | assumption)
           have q358 : (ji11) < (l0.length : Int) := of_decide_eq_true (by first | (with_reducible assumption) | assumption)
           obtain ⟨ad358, e358, hx358_0⟩ := Kd.at_int HR0.out (ji11) p358 q358
           cases e358
           replace p358 := eq_true p358
           replace q358 := eq_true q358
           go_wp2
           go_roundg k2
           case measure => have := HJ3.out; have := HK2.out; omega
           case rel => exact ⟨(Go.bits .or .u64 x8_2 (ji16)), (wrap64 (x35_2 + 1)), (by first | rfl | (simp; done) | (simp only [← hji16] <;> (first | rfl | simp)) | (simp [*]; done)), (by first | rfl | (simp; done) | (simp [*]; done)), H', ⟨by have := HJ3.out; have := HK2.out; omega⟩, by repeat (first | exact Drawn0.refl _ | apply Drawn0.step)⟩
          ·rw [if_neg c15] at H
           exact absurd H (by simp)
         ·rw [if_neg c13] at H
          exact absurd H (by simp)
        ·rw [if_neg c12] at H
         exact absurd H (by simp)
       ·rw [if_neg c10] at H
        have c10b0 : decide (x35_2 < a2) = false := decide_eq_false c10
        clear c10
        simp only [Option.some.injEq, Prod.mk.injEq] at H
        obtain ⟨rfl, rfl⟩ := H
        go_wp2
        go_ret2
        exact ⟨by first | rfl | (simp; done) | (simp [*]; done), by repeat (first | exact Drawn0.refl _ | apply Drawn0.step)⟩
end Go.Proofs.Ytpibhiacmceekaa.X
end

section
namespace Go.Proofs.Ytpibhiacmceekaa.X
open Go.RowKit Go.Proofs.YtpibhiacmceekaaW.PrintWords Go.Proofs.YtpibhiacmceekaaW.PrintLast Go.Proofs.YtpibhiacmceekaaW.PrintMore
attribute [local go_sem] max2_int min2_int max_two min_two max_three min_three max_four min_four
set_option linter.unusedVariables false
set_option linter.unusedSimpArgs false
mutual
def marquetryref01_ReadLittle.j0 : Nat → List Int → Int → Int → Bool → Option (Int × Int)
 | 0, _, _, _, _ => none
 | k + 1, x0, x1, x2, x25 => if x25 = true then (some (0, 2)) else (if x2 > (wrap64 ((x0.length : Int) - x1)) then (some (0, 6)) else (marquetryref01_ReadLittle.l0 k x0 x1 0 (wrap64 (x2 - 1))))
def marquetryref01_ReadLittle.l0 : Nat → List Int → Int → Int → Int → Option (Int × Int)
 | 0, _, _, _, _ => none
 | k + 1, x0, x1, x8, x9 => if x9 ≥ 0 then (if 0 ≤ (wrap64 (x1 + x9)) then (if (wrap64 (x1 + x9)) < (x0.length : Int) then (marquetryref01_ReadLittle.l0 k x0 x1 (IntKind.u64.wrap ((IntKind.u64.wrap (x8 * 256)) + (IntKind.u64.wrap (rd x0 (wrap64 (x1 + x9)))))) (wrap64 (x9 - 1))) else (none)) else (none)) else (some (x8, 0))
end
def marquetryref01_ReadLittle.f (k : Nat) (l0 : List Int) (a1 : Int) (a2 : Int) : Option (Int × Int) := if a2 < 0 then (marquetryref01_ReadLittle.j0 k l0 a1 a2 true) else (if a2 > 8 then (marquetryref01_ReadLittle.j0 k l0 a1 a2 true) else (if a1 < 0 then (marquetryref01_ReadLittle.j0 k l0 a1 a2 true) else (marquetryref01_ReadLittle.j0 k l0 a1 a2 (decide (a1 > (l0.length : Int))))))
theorem marquetryref01_ReadLittle.mono_l : ∀ k, (∀ y0 y1 y2 y3, LeO (marquetryref01_ReadLittle.j0 k y0 y1 y2 y3) (marquetryref01_ReadLittle.j0 (k + 1) y0 y1 y2 y3)) ∧ (∀ y0 y1 y2 y3, LeO (marquetryref01_ReadLittle.l0 k y0 y1 y2 y3) (marquetryref01_ReadLittle.l0 (k + 1) y0 y1 y2 y3))
 | 0 => ⟨fun _ _ _ _ r h => by simp [marquetryref01_ReadLittle.j0] at h, fun _ _ _ _ r h => by simp [marquetryref01_ReadLittle.l0] at h⟩
 | k + 1 => by
  obtain ⟨ih0, ih1⟩ := marquetryref01_ReadLittle.mono_l k
  refine ⟨?_, ?_⟩
  ·intro y0 y1 y2 y3
   unfold marquetryref01_ReadLittle.j0
   repeat' first
   | (with_reducible exact ih0 _ _ _ _)
   | (with_reducible exact ih1 _ _ _ _)
   | (with_reducible exact LeO.refl _)
   | (with_reducible exact LeO.none _)
   | (with_reducible refine LeO.ite ?_ ?_)
   | (with_reducible refine LeO.bind ?_ (fun _ => ?_))
   | exact ih0 _ _ _ _
   | exact ih1 _ _ _ _
   | exact LeO.none _
   | refine LeO.ite ?_ ?_
   | refine LeO.bind ?_ (fun _ => ?_)
  ·intro y0 y1 y2 y3
   unfold marquetryref01_ReadLittle.l0
   repeat' first
   | (with_reducible exact ih0 _ _ _ _)
   | (with_reducible exact ih1 _ _ _ _)
   | (with_reducible exact LeO.refl _)
   | (with_reducible exact LeO.none _)
   | (with_reducible refine LeO.ite ?_ ?_)
   | (with_reducible refine LeO.bind ?_ (fun _ => ?_))
   | exact ih0 _ _ _ _
   | exact ih1 _ _ _ _
   | exact LeO.none _
   | refine LeO.ite ?_ ?_
   | refine LeO.bind ?_ (fun _ => ?_)
theorem marquetryref01_ReadLittle.mono : ∀ a0 a1 a2 k, LeO (marquetryref01_ReadLittle.f k a0 a1 a2) (marquetryref01_ReadLittle.f (k + 1) a0 a1 a2) := by
 intro a0 a1 a2 k
 obtain ⟨ih0, ih1⟩ := marquetryref01_ReadLittle.mono_l k
 unfold marquetryref01_ReadLittle.f
 repeat' first
   | (with_reducible exact ih0 _ _ _ _)
   | (with_reducible exact ih1 _ _ _ _)
   | (with_reducible exact LeO.refl _)
   | (with_reducible exact LeO.none _)
   | (with_reducible refine LeO.ite ?_ ?_)
   | (with_reducible refine LeO.bind ?_ (fun _ => ?_))
   | exact ih0 _ _ _ _
   | exact ih1 _ _ _ _
   | exact LeO.none _
   | refine LeO.ite ?_ ?_
   | refine LeO.bind ?_ (fun _ => ?_)
set_option maxHeartbeats 8000000 in
set_option maxRecDepth 100000 in
theorem marquetryref01_ReadLittle.calls (k : Nat) (A0 : Option Addr) (c0 : Nat) (l0 : List Int) (a1 : Int) (a2 : Int) (r1 : Int) (r2 : Int) (w : World) (hr0 : Kd.C (Kd.int .u8) w A0 l0.length l0) (hc0 : l0.length ≤ c0) (h : marquetryref01_ReadLittle.f k l0 a1 a2 = some (r1, r2)) :
  Calls Try.prog 51 #[.slice A0 l0.length c0, .int .i64 a1, .int .i64 a2] w fun e w' => e = .returned (.tuple #[.int .u64 r1, .int .i64 r2]) ∧ Drawn0 w w' := by
 have HR0 := Aside0.mk hr0
 have HC0 := Aside0.mk hc0
 clear hr0 hc0
 have H : (if a2 < 0 then (marquetryref01_ReadLittle.j0 k l0 a1 a2 true) else (if a2 > 8 then (marquetryref01_ReadLittle.j0 k l0 a1 a2 true) else (if a1 < 0 then (marquetryref01_ReadLittle.j0 k l0 a1 a2 true) else (marquetryref01_ReadLittle.j0 k l0 a1 a2 (decide (a1 > (l0.length : Int))))))) = some (r1, r2) := h
 clear h
 have HC4 := Aside0.mk H
 clear H
 go_enter Try.func51, Try.ntmps51
 go_upto_region 1 with (fail)
 go_cut [25] (fun v25 wc => ∃ (kq : Nat) (x25_3 : Bool), v25 = .bool x25_3 ∧ Aside0 (marquetryref01_ReadLittle.j0 kq l0 a1 a2 x25_3 = some (r1, r2)) ∧ Aside0 (kq ≤ k) ∧ Drawn0 w wc)
 case first =>
  have H := HC4.out
  clear HC4
  by_cases c5 : a2 < 0
  ·rw [if_pos c5] at H
   have c5b0 : decide (a2 < 0) = true := decide_eq_true c5
   clear c5
   (first | rw [c5b0] | (simp only [i64_w, i32_w]; rw [c5b0]) | skip)
   have H' := Aside0.mk H
   clear H
   go_wp2
   go_meet
   case rel => exact ⟨_, (true), (by first | rfl | (simp; done) | (simp [*]; done)), H', ⟨by first | omega | exact Nat.le_refl _⟩, by repeat (first | exact Drawn0.refl _ | apply Drawn0.step)⟩
  ·rw [if_neg c5] at H
   have c5b0 : decide (a2 < 0) = false := decide_eq_false c5
   clear c5
   (first | rw [c5b0] | (simp only [i64_w, i32_w]; rw [c5b0]) | skip)
   by_cases c6 : a2 > 8
   ·rw [if_pos c6] at H
    have c6b0 : decide (8 < a2) = true := decide_eq_true c6
    clear c6
    have H' := Aside0.mk H
    clear H
    go_wp2
    go_meet
    case rel => exact ⟨_, (true), (by first | rfl | (simp; done) | (simp [*]; done)), H', ⟨by first | omega | exact Nat.le_refl _⟩, by repeat (first | exact Drawn0.refl _ | apply Drawn0.step)⟩
   ·rw [if_neg c6] at H
    have c6b0 : decide (8 < a2) = false := decide_eq_false c6
    clear c6
    by_cases c7 : a1 < 0
    ·rw [if_pos c7] at H
     have c7b0 : decide (a1 < 0) = true := decide_eq_true c7
     clear c7
     have H' := Aside0.mk H
     clear H
     go_wp2
     go_meet
     case rel => exact ⟨_, (true), (by first | rfl | (simp; done) | (simp [*]; done)), H', ⟨by first | omega | exact Nat.le_refl _⟩, by repeat (first | exact Drawn0.refl _ | apply Drawn0.step)⟩
    ·rw [if_neg c7] at H
     have c7b0 : decide (a1 < 0) = false := decide_eq_false c7
     clear c7
     have H' := Aside0.mk H
     clear H
     go_wp2
     go_meet
     case rel => exact ⟨_, (decide (a1 > (l0.length : Int))), (by first | rfl | (simp; done) | (simp [*]; done)), H', ⟨by first | omega | exact Nat.le_refl _⟩, by repeat (first | exact Drawn0.refl _ | apply Drawn0.step)⟩
 case rest =>
  clear HC4
  try clear p2
  try clear c5
  try clear c5b0
  try clear c6
  try clear c6b0
  try clear c7
  try clear c7b0
  obtain ⟨kq, x25_3, rfl, HA, HJ3, ⟨mc3, rfl⟩⟩ := hcut
  cases kq with
  | zero => exact absurd HA.out (by simp [marquetryref01_ReadLittle.j0])
  | succ kj3 =>
   have H := HA.out
   clear HA
   simp only [marquetryref01_ReadLittle.j0] at H
   by_cases c8 : x25_3 = true
   ·subst c8
    have H1 : (some (0, 2)) = some (r1, r2) := by rw [if_pos rfl] at H; exact H
    clear H
    have H := H1
    clear H1
    simp only [Option.some.injEq, Prod.mk.injEq] at H
    obtain ⟨rfl, rfl⟩ := H
    go_wp2
    go_ret2
    exact ⟨by first | rfl | (simp; done) | (simp [*]; done), by repeat (first | exact Drawn0.refl _ | apply Drawn0.step)⟩
   ·replace c8 := Bool.eq_false_iff.mpr c8
    subst c8
    have H1 : (if a2 > (wrap64 ((l0.length : Int) - a1)) then (some (0, 6)) else (marquetryref01_ReadLittle.l0 kj3 l0 a1 0 (wrap64 (a2 - 1)))) = some (r1, r2) := by rw [if_neg (show ¬ (false = true) by decide)] at H; exact H
    clear H
    have H := H1
    clear H1
    by_cases c9 : a2 > (wrap64 ((l0.length : Int) - a1))
    ·rw [if_pos c9] at H
     have c9b0 : decide ((wrap64 ((l0.length : Int) - a1)) < a2) = true := decide_eq_true c9
     clear c9
     simp only [Option.some.injEq, Prod.mk.injEq] at H
     obtain ⟨rfl, rfl⟩ := H
     go_wp2
     go_ret2
     exact ⟨by first | rfl | (simp; done) | (simp [*]; done), by repeat (first | exact Drawn0.refl _ | apply Drawn0.step)⟩
    ·rw [if_neg c9] at H
     have c9b0 : decide ((wrap64 ((l0.length : Int) - a1)) < a2) = false := decide_eq_false c9
     clear c9
     have H' := Aside0.mk H
     clear H
     go_wp2
     go_loopg [8, 9] kj3 (fun kq v8 v9 w' => ∃ (x8_2 : Int) (x9_2 : Int), v8 = .int .u64 x8_2 ∧ v9 = .int .i64 x9_2 ∧ Aside0 (marquetryref01_ReadLittle.l0 kq l0 a1 x8_2 x9_2 = some (r1, r2)) ∧ Aside0 (kq ≤ kj3) ∧ Drawn0 w w')
     case atStart => exact ⟨(0), (wrap64 (a2 - 1)), (by first | rfl | (simp; done) | (simp [*]; done)), (by first | rfl | (simp; done) | (simp [*]; done)), H', ⟨Nat.le_refl _⟩, by repeat (first | exact Drawn0.refl _ | apply Drawn0.step)⟩
     case round =>
      clear H'
      try clear p2
      try clear c3
      try clear c5
      try clear c5b0
      try clear c6
      try clear c6b0
      try clear p6
      try clear c7
      try clear c7b0
      try clear c8
      try clear c9
      try clear c9b0
      try clear p2
      obtain ⟨x8_2, x9_2, rfl, rfl, HA, HK2, ⟨m2, rfl⟩⟩ := hrel
      cases gk with
      | zero => exact absurd HA.out (by simp [marquetryref01_ReadLittle.l0])
      | succ k2 =>
       have H := HA.out
       clear HA
       simp only [marquetryref01_ReadLittle.l0] at H
       by_cases c10 : x9_2 ≥ 0
       ·rw [if_pos c10] at H
        have c10b0 : decide (0 ≤ x9_2) = true := decide_eq_true c10
        clear c10
        obtain ⟨ji11, hji11⟩ : ∃ j_ : Int, (wrap64 (a1 + x9_2)) = j_ := ⟨_, rfl⟩
        replace H : (if 0 ≤ (ji11) then (if (ji11) < (l0.length : Int) then (marquetryref01_ReadLittle.l0 k2 l0 a1 (IntKind.u64.wrap ((IntKind.u64.wrap (x8_2 * 256)) + (IntKind.u64.wrap (rd l0 (ji11))))) (wrap64 (x9_2 - 1))) else (none)) else (none)) = some (r1, r2) := by first | (rw [hji11] at H; exact H) | (simp only [hji11] at H ⊢; exact H)
        have hji11w : (IntKind.i64.wrap (a1 + x9_2)) = ji11 := (i64_w _).trans hji11
        by_cases c12 : 0 ≤ (ji11)
        ·rw [if_pos c12] at H
         have c12b0 : decide (0 ≤ (ji11)) = true := decide_eq_true c12
         clear c12
         by_cases c13 : (ji11) < (l0.length : Int)
         ·rw [if_pos c13] at H
          have c13b0 : decide ((ji11) < (l0.length : Int)) = true := decide_eq_true c13
          clear c13
          have H' := Aside0.mk H
          clear H
          have p360 : 0 ≤ ((ji11) : Int) := of_decide_eq_true (by first | (with_reducible assumption) | assumption)
          have q360 : (ji11) < (l0.length : Int) := of_decide_eq_true (by first | (with_reducible assumption) | assumption)
          obtain ⟨ad360, e360, hx360_0⟩ := Kd.at_int HR0.out (ji11) p360 q360
          cases e360
          replace p360 := eq_true p360
          replace q360 := eq_true q360
          go_wp2
          go_roundg k2
          case measure => have := HJ3.out; have := HK2.out; omega
          case rel => exact ⟨(IntKind.u64.wrap ((IntKind.u64.wrap (x8_2 * 256)) + (IntKind.u64.wrap (rd l0 (ji11))))), (wrap64 (x9_2 - 1)), (by first | rfl | (simp; done) | (simp only [← hji11] <;> (first | rfl | simp)) | (simp [*]; done)), (by first | rfl | (simp; done) | (simp [*]; done)), H', ⟨by have := HJ3.out; have := HK2.out; omega⟩, by repeat (first | exact Drawn0.refl _ | apply Drawn0.step)⟩
         ·rw [if_neg c13] at H
          exact absurd H (by simp)
        ·rw [if_neg c12] at H
         exact absurd H (by simp)
       ·rw [if_neg c10] at H
        have c10b0 : decide (0 ≤ x9_2) = false := decide_eq_false c10
        clear c10
        simp only [Option.some.injEq, Prod.mk.injEq] at H
        obtain ⟨rfl, rfl⟩ := H
        go_wp2
        go_ret2
        exact ⟨by first | rfl | (simp; done) | (simp [*]; done), by repeat (first | exact Drawn0.refl _ | apply Drawn0.step)⟩
end Go.Proofs.Ytpibhiacmceekaa.X
end

section
namespace Go.Proofs.Ytpibhiacmceekaa.Bx
open Go.RowKit
theorem u64w (n : Int) : IntKind.u64.wrap n = n % 18446744073709551616 := IntKind.wrap_u64 n
theorem wraps_u64 (n : Int) (h₀ : 0 ≤ n) (h₁ : n < 2 ^ 64) : IntKind.u64.wrap n = n := by rw [u64w]; omega
theorem and_one_u64 (x : Int) (h0 : 0 ≤ x) (h1 : x ≤ 18446744073709551615) : bits .and .u64 x 1 = x % 2 :=
  bits_mask .u64 64 (by decide) wraps_u64 1 (by decide) x h0 (by omega)
theorem and_127_u64 (x : Int) (h0 : 0 ≤ x) (h1 : x ≤ 18446744073709551615) : bits .and .u64 x 127 = x % 128 :=
  bits_mask .u64 64 (by decide) wraps_u64 7 (by decide) x h0 (by omega)
theorem or_128_u64 (x : Int) (h0 : 0 ≤ x) (h1 : x < 128) : bits .or .u64 x 128 = x + 128 := by
  have := bits_join .u64 64 (by decide) wraps_u64 7 128 x (by decide) (by decide) (by decide) h0 (by omega) (by omega)
  obtain ⟨a, rfl⟩ := Int.eq_ofNat_of_zero_le h0
  have c := (bits_nat .u64 64 (by decide) wraps_u64 a 128 (by omega) (by decide)).2
  have d := (bits_nat .u64 64 (by decide) wraps_u64 128 a (by decide) (by omega)).2
  rw [Nat.or_comm] at c
  have : bits .or .u64 (a : Int) 128 = bits .or .u64 128 (a : Int) := c.trans d.symm
  omega
theorem wf_i64 {a : Int} (h : (Lit.int .i64 a).wf = true) : -9223372036854775808 ≤ a ∧ a ≤ 9223372036854775807 := by
  simp [Lit.wf, IntKind.min, IntKind.max, IntKind.signed, IntKind.bits] at h; omega
theorem wf_u8 {a : Int} (h : (Lit.int .u8 a).wf = true) : 0 ≤ a ∧ a ≤ 255 := by
  simp [Lit.wf, IntKind.min, IntKind.max, IntKind.signed, IntKind.bits] at h; omega
theorem w64 {a : Int} (h : -9223372036854775808 ≤ a) (h' : a ≤ 9223372036854775807) : wrap64 a = a := by unfold wrap64; omega
end Go.Proofs.Ytpibhiacmceekaa.Bx
end

section
namespace Go.Proofs.Ytpibhiacmceekaa.Nx
open Go.RowKit Go.Proofs.Ytpibhiacmceekaa.Bx
def wd (n : Nat) : Nat := if n = 0 then 0 else wd (n / 2) + 1
termination_by n
decreasing_by omega
theorem wd_zero : wd 0 = 0 := by rw [wd]; simp
theorem wd_pos {n : Nat} (h : n ≠ 0) : wd n = wd (n / 2) + 1 := by rw [wd]; simp [h]
theorem wd_le (k : Nat) : ∀ n, wd n ≤ k ↔ n < 2 ^ k := by
  induction k with
  | zero =>
    intro n
    by_cases h : n = 0
    · subst h; simp [wd_zero]
    · rw [wd_pos h]; simp; omega
  | succ k ih =>
    intro n
    by_cases h : n = 0
    · subst h; simp [wd_zero, Nat.two_pow_pos]
    · rw [wd_pos h, Nat.add_le_add_iff_right, ih, Nat.pow_succ]; omega
theorem wd_le64 (n : Nat) (h : n < 18446744073709551616) : wd n ≤ 64 := (wd_le 64 n).2 (by omega)
def leb : Nat → Int → List Int
  | 0, _ => []
  | k + 1, n => n % 256 :: leb k (n / 256)
theorem leb_length : ∀ k n, (leb k n).length = k
  | 0, _ => rfl
  | k + 1, n => by simp [leb, leb_length k]
theorem leb_range : ∀ k n, ∀ x ∈ leb k n, 0 ≤ x ∧ x ≤ 255
  | 0, _, x, h => by simp [leb] at h
  | k + 1, n, x, h => by
    simp only [leb, List.mem_cons] at h
    rcases h with rfl | h
    · omega
    · exact leb_range k _ x h
def leS : List Int → Int
  | [] => 0
  | x :: l => x + 256 * leS l
theorem leS_nonneg : ∀ l : List Int, (∀ x ∈ l, 0 ≤ x ∧ x ≤ 255) → 0 ≤ leS l
  | [], _ => by simp [leS]
  | x :: l, h => by
    have := leS_nonneg l (fun y hy => h y (by simp [hy]))
    have := h x (by simp)
    simp only [leS]; omega
theorem leS_lt : ∀ l : List Int, (∀ x ∈ l, 0 ≤ x ∧ x ≤ 255) → leS l < 256 ^ l.length
  | [], _ => by simp [leS]
  | x :: l, h => by
    have := leS_lt l (fun y hy => h y (by simp [hy]))
    have := h x (by simp)
    simp only [leS, List.length_cons, Int.pow_succ]; omega
theorem leS_snoc : ∀ (l : List Int) (x : Int), leS (l ++ [x]) = leS l + 256 ^ l.length * x
  | [], x => by simp [leS]
  | y :: l, x => by
    simp only [List.cons_append, leS, leS_snoc l x, List.length_cons, Int.pow_succ]
    rw [Int.mul_add]
    have : 256 * ((256 : Int) ^ l.length * x) = 256 ^ l.length * 256 * x := by
      rw [← Int.mul_assoc, Int.mul_comm 256]
    omega
theorem leS_leb : ∀ (k : Nat) (n : Int), leS (leb k n) = n % 256 ^ k
  | 0, n => by simp [leb, leS, Int.emod_one]
  | k + 1, n => by
    simp only [leb, leS, leS_leb k]
    rw [Int.pow_succ]
    have hp : (0 : Int) < 256 ^ k := Int.pow_pos (by decide)
    generalize (256 : Int) ^ k = p at hp
    have h1 := Int.mul_ediv_add_emod n 256
    have h2 := Int.mul_ediv_add_emod (n / 256) p
    have e : n = p * 256 * (n / 256 / p) + (n % 256 + 256 * (n / 256 % p)) := by
      have : p * 256 * (n / 256 / p) = 256 * (p * (n / 256 / p)) := by rw [Int.mul_comm p 256, Int.mul_assoc]
      omega
    have r1 := Int.emod_nonneg (n / 256) (show p ≠ 0 by omega)
    have r2 := Int.emod_lt_of_pos (n / 256) hp
    have key : (n % 256 + 256 * (n / 256 % p) + p * 256 * (n / 256 / p)) % (p * 256) = n % 256 + 256 * (n / 256 % p) := by
      rw [Int.add_mul_emod_self_left]
      exact Int.emod_eq_of_lt (by omega) (by omega)
    rw [show n % 256 + 256 * (n / 256 % p) + p * 256 * (n / 256 / p) = n by omega] at key
    exact key.symm
theorem or_low_high (i : Nat) (x y : Int) (hx0 : 0 ≤ x) (hx : x < 2 ^ i) (hy0 : 0 ≤ y) (hy : y % 2 ^ i = 0) (hy1 : y < 18446744073709551616) (hx1 : x < 18446744073709551616) :
    bits .or .u64 x y = x + y := by
  have := bits_join .u64 64 (by decide) wraps_u64 i y x hy0 hy (by omega) hx0 hx (by omega)
  obtain ⟨a, rfl⟩ := Int.eq_ofNat_of_zero_le hx0
  obtain ⟨b, rfl⟩ := Int.eq_ofNat_of_zero_le hy0
  have c := (bits_nat .u64 64 (by decide) wraps_u64 a b (by omega) (by omega)).2
  have d := (bits_nat .u64 64 (by decide) wraps_u64 b a (by omega) (by omega)).2
  rw [Nat.or_comm] at c
  have : bits .or .u64 (a : Int) (b : Int) = bits .or .u64 (b : Int) (a : Int) := c.trans d.symm
  omega
def win (l : List Int) (at_ m : Nat) : List Int := (l.drop at_).take m
theorem win_length {l : List Int} {a m : Nat} (h : a + m ≤ l.length) : (win l a m).length = m := by simp [win]; omega
theorem win_mem {l : List Int} {a m : Nat} {x : Int} (h : x ∈ win l a m) : x ∈ l := List.mem_of_mem_drop (List.mem_of_mem_take h)
theorem win_snoc {l : List Int} {a m : Nat} (h : a + m < l.length) : win l a (m + 1) = win l a m ++ [l.getD (a + m) 0] := by
  unfold win
  rw [List.take_succ_eq_append_getElem (by simp; omega)]
  simp [List.getD_eq_getElem?_getD, h]
theorem win_zero (l : List Int) (a : Nat) : win l a 0 = [] := by simp [win]
end Go.Proofs.Ytpibhiacmceekaa.Nx
end

section
namespace Go.Proofs.Ytpibhiacmceekaa.L1
set_option linter.unusedVariables false
set_option linter.unusedSimpArgs false
open Go.RowKit Go.Proofs.Ytpibhiacmceekaa.X Go.Proofs.YtpibhiacmceekaaW.PrintWords Go.Proofs.YtpibhiacmceekaaW.PrintLast Go.Proofs.YtpibhiacmceekaaW.PrintMore Go.Proofs.Ytpibhiacmceekaa.Bx Go.Proofs.Ytpibhiacmceekaa.Nx
theorem wd_step {x : Int} (h : x > 0) : wd x.toNat = wd (x / 2).toNat + 1 := by
  rw [wd_pos (by omega)]; congr 2; omega
theorem width_l : ∀ (k : Nat) (x y : Int), 0 ≤ x → x ≤ 18446744073709551615 → 0 ≤ y → y + wd x.toNat ≤ 4611686018427387904 → wd x.toNat < k → bits_Width.l0 k x y = some (y + wd x.toNat)
  | 0, _, _, _, _, _, _, h => absurd h (by omega)
  | k + 1, x, y, h0, h1, h2, h3, h => by
    simp only [bits_Width.l0]
    by_cases c : x > 0
    · have e := wd_step c
      rw [if_pos c, w64 (by omega) (by omega), width_l k (x / 2) (y + 1) (by omega) (by omega) (by omega) (by omega) (by omega), e]
      congr 1; omega
    · have e : x = 0 := by omega
      subst e
      rw [if_neg (by omega)]; simp [wd_zero]
theorem width {k : Nat} {x : Int} (hk : 65 ≤ k) (h0 : 0 ≤ x) (h1 : x ≤ 18446744073709551615) : bits_Width.f k x = some (wd x.toNat : Int) := by
  have := wd_le64 x.toNat (by omega)
  unfold bits_Width.f
  rw [width_l k x 0 h0 h1 (by omega) (by omega) (by omega)]; congr 1; omega
def LittleR (n m : Int) : List Int × Int := if m < 0 ∨ m > 8 ∨ (m < 8 ∧ n / 2 ^ (8 * m).toNat ≠ 0) then ([], 2) else (leb m.toNat n, 0)
theorem leb_step (m i x : Int) (acc : List Int) (h : i < m) : (acc ++ [x % 256]) ++ leb (m - (i + 1)).toNat (x / 256) = acc ++ leb (m - i).toNat x := by
  obtain ⟨d, hd⟩ : ∃ d, (m - i).toNat = d + 1 := ⟨(m - i).toNat - 1, by omega⟩
  rw [hd, show (m - (i + 1)).toNat = d by omega]
  simp [leb]
theorem little_l : ∀ (k : Nat) (x : Int) (acc : List Int) (m i : Int), 0 ≤ i → i ≤ m → m ≤ 8 → acc.length + (m - i).toNat < 140737488355328 → (m - i).toNat < k → bits_Little.l0 k x acc m i = some (acc ++ leb (m - i).toNat x, 0)
  | 0, _, _, _, _, _, _, _, _, h => absurd h (by omega)
  | k + 1, x, acc, m, i, h0, h1, h2, h3, h => by
    simp only [bits_Little.l0]
    by_cases c : i < m
    · rw [if_pos c, if_pos (by omega), w64 (by omega) (by omega), little_l k _ _ m (i + 1) (by omega) (by omega) h2 (by simp; omega) (by omega), leb_step m i x acc c]
    · rw [if_neg c, show (m - i).toNat = 0 by omega]; simp [leb]
theorem little {k : Nat} {n m : Int} (hk : 12 ≤ k) (hm : -9223372036854775808 ≤ m) (hm' : m ≤ 9223372036854775807) : bits_Little.f k n m = some (LittleR n m) := by
  obtain ⟨k, rfl⟩ : ∃ j, k = j + 1 := ⟨k - 1, by omega⟩
  unfold bits_Little.f LittleR
  simp only [bits_Little.j0]
  by_cases c0 : m < 0
  · rw [if_pos c0, if_pos trivial, if_pos (by omega)]
  rw [if_neg c0]
  by_cases c1 : m > 8
  · rw [if_pos c1, if_pos trivial, if_pos (by omega)]
  rw [if_neg c1]
  by_cases c2 : m < 8
  · rw [if_pos c2, w64 (by omega) (by omega), if_pos (by omega)]
    have e : shr .u64 n (8 * m) = n / 2 ^ (8 * m).toNat := by
      unfold shr; rw [Nat.min_eq_left (by simp [IntKind.bits]; omega)]
    rw [e]
    by_cases c3 : n / 2 ^ (8 * m).toNat = 0
    · rw [c3]; simp only [bne_self_eq_false, Bool.false_eq_true, if_false]
      rw [little_l k n [] m 0 (by omega) (by omega) (by omega) (by simp; omega) (by omega), if_neg (by omega)]
      simp
    · rw [if_pos (by simpa using c3), if_pos (by omega)]
  · rw [if_neg c2]
    simp only [Bool.false_eq_true, if_false]
    rw [little_l k n [] m 0 (by omega) (by omega) (by omega) (by simp; omega) (by omega), if_neg (by omega)]
    simp
def ReadLittleR (b : List Int) (a m : Int) : Int × Int := if m < 0 ∨ m > 8 ∨ a < 0 ∨ a > b.length then (0, 2) else if m > b.length - a then (0, 6) else (leS (win b a.toNat m.toNat), 0)
theorem getD_range {b : List Int} (hb : ∀ x ∈ b, 0 ≤ x ∧ x ≤ 255) (i : Nat) : 0 ≤ b.getD i 0 ∧ b.getD i 0 ≤ 255 := by
  rw [List.getD_eq_getElem?_getD]
  by_cases h : i < b.length
  · rw [List.getElem?_eq_getElem h]; exact hb _ (List.getElem_mem h)
  · rw [List.getElem?_eq_none (by omega)]; simp
theorem leS_win_lt {b : List Int} (hb : ∀ x ∈ b, 0 ≤ x ∧ x ≤ 255) {a m : Nat} (h : a + m ≤ b.length) : 0 ≤ leS (win b a m) ∧ leS (win b a m) < 256 ^ m := by
  have h1 := leS_nonneg (win b a m) (fun x hx => hb x (win_mem hx))
  have h2 := leS_lt (win b a m) (fun x hx => hb x (win_mem hx))
  rw [win_length h] at h2
  exact ⟨h1, h2⟩
theorem pow256 (i : Nat) : (256 : Int) ^ i = 2 ^ (8 * i) := by rw [Int.pow_mul]; rfl
theorem pow256_le {i j : Nat} (h : i ≤ j) : (256 : Int) ^ i ≤ 256 ^ j := by
  have h2 : ((256 ^ i : Nat) : Int) ≤ ((256 ^ j : Nat) : Int) := Int.ofNat_le.2 (Nat.pow_le_pow_right (by decide) h)
  rw [Int.natCast_pow, Int.natCast_pow] at h2
  exact h2
theorem read_step {b : List Int} (hb : ∀ x ∈ b, 0 ≤ x ∧ x ≤ 255) (a i : Nat) (h : a + i < b.length) (hi : i < 8) :
    bits .or .u64 (leS (win b a i)) (shl .u64 (IntKind.u64.wrap (b.getD (a + i) 0)) (8 * i : Nat)) = leS (win b a (i + 1)) := by
  obtain ⟨h1, h2⟩ := leS_win_lt hb (show a + i ≤ b.length by omega)
  obtain ⟨r1, r2⟩ := getD_range hb (a + i)
  have hp : (256 : Int) ^ (i + 1) ≤ 256 ^ 8 := pow256_le (by omega)
  have h8 : (256 : Int) ^ 8 = 18446744073709551616 := by decide
  have hs : b.getD (a + i) 0 * 256 ^ i < 256 ^ (i + 1) := by
    rw [Int.pow_succ, Int.mul_comm]
    exact Int.mul_lt_mul_of_pos_left (by omega) (Int.pow_pos (by decide))
  have hs0 : 0 ≤ b.getD (a + i) 0 * 256 ^ i := Int.mul_nonneg r1 (Int.le_of_lt (Int.pow_pos (by decide)))
  have e : shl .u64 (IntKind.u64.wrap (b.getD (a + i) 0)) (8 * i : Nat) = b.getD (a + i) 0 * 256 ^ i := by
    unfold shl
    rw [u64w, u64w, Int.emod_eq_of_lt r1 (by omega), Nat.min_eq_left (by simp [IntKind.bits]; omega), show ((8 * i : Nat) : Int).toNat = 8 * i by omega, ← pow256]
    exact Int.emod_eq_of_lt hs0 (by omega)
  rw [e, win_snoc h, leS_snoc, win_length (by omega), or_low_high (8 * i) _ _ h1 (by rw [← pow256]; exact h2) hs0 (by rw [← pow256]; exact Int.mul_emod_left _ _) (by omega) (by have := pow256_le (show i ≤ 8 by omega); omega), Int.mul_comm]
theorem read_l : ∀ (k : Nat) (b : List Int) (a m i : Int), (∀ x ∈ b, 0 ≤ x ∧ x ≤ 255) → b.length ≤ 9223372036854775000 → 0 ≤ a → 0 ≤ i → i ≤ m → m ≤ 8 → a + m ≤ b.length → (m - i).toNat < k →
    bits_ReadLittle.l0 k b a (leS (win b a.toNat i.toNat)) m i = some (leS (win b a.toNat m.toNat), 0)
  | 0, _, _, _, _, _, _, _, _, _, _, _, h => absurd h (by omega)
  | k + 1, b, a, m, i, hb, hl, h0, h1, h2, h3, h4, h => by
    simp only [bits_ReadLittle.l0]
    by_cases c : i < m
    · rw [if_pos c, w64 (by omega) (by omega), if_pos (by omega), if_pos (by omega), w64 (by omega) (by omega), if_pos (by omega), w64 (by omega) (by omega)]
      have e := read_step hb a.toNat i.toNat (by omega) (by omega)
      rw [show ((8 * i.toNat : Nat) : Int) = 8 * i by omega] at e
      have e2 : rd b (a + i) = b.getD (a.toNat + i.toNat) 0 := by unfold rd; congr 1; omega
      rw [e2, e, show i.toNat + 1 = (i + 1).toNat by omega]
      exact read_l k b a m (i + 1) hb hl h0 (by omega) (by omega) h3 h4 (by omega)
    · rw [if_neg c, show i = m by omega]
theorem readLittle {k : Nat} {b : List Int} {a m : Int} (hk : 12 ≤ k) (hb : ∀ x ∈ b, 0 ≤ x ∧ x ≤ 255) (hl : b.length ≤ 9223372036854775000) (ha : a ≤ 9223372036854775807) : bits_ReadLittle.f k b a m = some (ReadLittleR b a m) := by
  obtain ⟨k, rfl⟩ : ∃ j, k = j + 1 := ⟨k - 1, by omega⟩
  unfold bits_ReadLittle.f ReadLittleR
  simp only [bits_ReadLittle.j0]
  by_cases c0 : m < 0
  · rw [if_pos c0, if_pos trivial, if_pos (by omega)]
  rw [if_neg c0]
  by_cases c1 : m > 8
  · rw [if_pos c1, if_pos trivial, if_pos (by omega)]
  rw [if_neg c1]
  by_cases c2 : a < 0
  · rw [if_pos c2, if_pos trivial, if_pos (by omega)]
  rw [if_neg c2]
  by_cases c3 : a > (b.length : Int)
  · rw [if_pos (by simpa using c3), if_pos (by omega)]
  rw [if_neg (by simpa using c3), w64 (by omega) (by omega)]
  by_cases c4 : m > (b.length : Int) - a
  · rw [if_pos c4, if_neg (by omega), if_pos c4]
  rw [if_neg c4, if_neg (by omega), if_neg c4]
  have := read_l k b a m 0 hb hl (by omega) (by omega) (by omega) (by omega) (by omega) (by omega)
  rwa [show (0 : Int).toNat = 0 from rfl, win_zero] at this
end Go.Proofs.Ytpibhiacmceekaa.L1
end

section
namespace Go.Proofs.Ytpibhiacmceekaa.X
open Go.RowKit Go.Proofs.YtpibhiacmceekaaW.PrintWords Go.Proofs.YtpibhiacmceekaaW.PrintLast Go.Proofs.YtpibhiacmceekaaW.PrintMore
set_option linter.unusedVariables false
set_option linter.unusedSimpArgs false
def wrow (V : Nat → Int) (j : Nat) : Array Value := ((List.range 256).map fun i => Value.int .i64 (if i < j then V i else 0)).toArray
theorem wrow_size (V : Nat → Int) (j : Nat) : (wrow V j).size = 256 := by simp [wrow]
theorem wrow_get (V : Nat → Int) (j i : Nat) (h : i < 256) : (wrow V j)[i]? = some (.int .i64 (if i < j then V i else 0)) := by simp [wrow, h]
theorem wrow_one (V : Nat → Int) (j : Nat) : (wrow V j).all (·.oneCell') = true := by
  unfold wrow
  rw [List.all_toArray, List.all_eq_true]
  intro x hx
  obtain ⟨i, _, rfl⟩ := List.mem_map.1 hx
  rfl
theorem wrow_set (V : Nat → Int) (j : Nat) (h : j < 256) : (wrow V j).setIfInBounds j (.int .i64 (V j)) = wrow V (j + 1) := by
  apply Array.ext (by simp [wrow])
  intro i h1 h2
  have hi : i < 256 := by simpa [wrow] using h2
  rw [Array.getElem_setIfInBounds (by rw [wrow_size]; exact hi)]
  simp only [wrow, List.getElem_toArray, List.getElem_map, List.getElem_range]
  by_cases c : j = i
  · subst c; rw [if_pos rfl, if_pos (by omega)]
  · rw [if_neg c]
    by_cases d : i < j
    · rw [if_pos d, if_pos (by omega)]
    · rw [if_neg d, if_neg (by omega)]
set_option maxHeartbeats 1000000 in
set_option maxRecDepth 100000 in
theorem lv_widths (k : Nat) (V : Nat → Int) (hV : ∀ i : Nat, i < 256 → bits_Width.f k (i : Int) = some (V i)) (w : World) :
    Calls Try.prog 47 #[] w fun e w' => e = .returned (.agg (wrow V 256)) ∧ Below w.heap.size w w' := by
  have HV := Aside0.mk hV
  clear hV
  go_enter Try.func47, Try.ntmps47
  go_wp2
  have hz : Try.zeroCells70 = wrow V 0 := by kernel_rfl
  go_loopw [3] (fun v3 w' => ∃ j : Nat, v3 = .int .i64 j ∧ j ≤ 256 ∧ Aside0 (w'.heap[w.heap.size]? = some (.cells (wrow V 0) 70 (0, 0))) ∧ Aside0 (w'.heap[w.heap.size + 1]? = some (.cells (wrow V j) 70 (0, 0))) ∧ Aside0 (Below w.heap.size w w')) (fun v3 w' => 256 - (intOf v3).toNat)
  case atStart => exact ⟨0, rfl, by omega, ⟨by rw [hz]; exact blk_alloc (blk_new _ _) _⟩, ⟨by rw [hz]; have := blk_new (w.alloc (.cells (wrow V 0) 70)) (.cells (wrow V 0) 70); rwa [World.size_alloc] at this⟩, ⟨below_alloc (below_alloc (Below.refl _ _) _) _⟩⟩
  case round =>
    clear hz
    obtain ⟨j, rfl, hj, HG0, HG1, HB⟩ := hrel
    by_cases hlt : j < 256
    · have HW := Aside0.mk (fun W => bits_Width.calls k (j : Int) (V j) W (HV.out j hlt))
      have hjb := decide_eq_true (show (j : Int) < 256 by omega)
      go_wp2_with fail
      refine (HW.out _).mono ?_
      rintro e W1 ⟨rfl, ⟨nd, rfl⟩⟩
      have hc : (wr.drewN nd).cell? ⟨w.heap.size + 1, j, none⟩ = some (.int .i64 0) := by
        have := blk_cell (blk_drewN HG1.out nd) j
        rw [this, wrow_get V j j hlt, if_neg (by omega)]
      have hf : (wr.drewN nd).frozen? ⟨w.heap.size + 1, j, none⟩ = false := blk_frozen (blk_drewN HG1.out nd) j
      clear HW
      go_wp2
      go_roundw
      case rel => exact ⟨j + 1, by go_num, by omega, ⟨blk_far (blk_drewN HG0.out nd) (by simp) _⟩, ⟨by have := blk_set (blk_drewN HG1.out nd) j (.int .i64 (V j)); rwa [wrow_set V j hlt] at this⟩, ⟨(pw_below_drewN HB.out nd).setCell (p := ⟨w.heap.size + 1, j, none⟩) (by simp) _⟩⟩
      case measure => simp [intOf]; omega
    · have hjb := decide_eq_false (show ¬ (j : Int) < 256 by omega)
      have HG1' := Aside0.mk (show wr.heap[w.heap.size + 1]? = some (.cells (wrow V 256) 70 (0, 0)) by have := HG1.out; rwa [show j = 256 by omega] at this)
      clear HG1 hlt
      go_wp2_with (first | (refine wpList_load_row rfl _ _ rfl (w.heap.size + 1) rfl 70 (wrow V 256) (0, 0) _ HG1'.out Try.underlying70 rfl ?hi ?_; case hi => rw [wrow_size]; kernel_rfl) | (refine wpList_store_row rfl 70 (.tmp 0) (.tmp 12) rfl w.heap.size (wrow V 256) rfl rfl 70 (wrow V 0) HG0.out ?hj ?hk (wrow_one V 256) ?_; (case hj => rw [wrow_size]; kernel_rfl); (case hk => rw [wrow_size, wrow_size])))
      refine bodyPost_ret (v := .agg (wrow V 256)) ?hr rfl ⟨rfl, ?hb⟩
      case hr => exact results_cell_row rfl _ _ w.heap.size 70 (wrow V 256) (0, 0) _ rfl (setRow_heap _ _ _ _ _ _ HG0.out) Try.underlying70 rfl (by rw [wrow_size]; kernel_rfl)
      case hb => exact below_setRow HB.out (Nat.le_refl _) _
def lvTab : Array Value := wrow (fun i => ((Nx.wd i : Nat) : Int)) 256
theorem lvTab_get (i : Nat) (h : i < 256) : lvTab[i]? = some (.int .i64 ((Nx.wd i : Nat) : Int)) := by
  have := wrow_get (fun i => ((Nx.wd i : Nat) : Int)) 256 i h
  rwa [if_pos h] at this
theorem lv_table (w : World) : Calls Try.prog 47 #[] w fun e w' => e = .returned (.agg lvTab) ∧ Below w.heap.size w w' :=
  lv_widths 65 (fun i => ((Nx.wd i : Nat) : Int)) (fun i hi => by
    have := L1.width (k := 65) (x := (i : Int)) (Nat.le_refl _) (by omega) (by omega)
    simpa using this) w
theorem lv_index (m : Nat) (h : m < 256) (w : World) : (Instr.index 70 (.agg lvTab) (.int .i64 (m : Int))).run Try.prog w = .ok (.int .i64 ((Nx.wd m : Nat) : Int)) w := by
  have hg := lvTab_get m h
  have hs : (Try.prog.info? 3).map (·.size) = some 1 := by kernel_rfl
  cases hq : Try.prog.info? 3 with
  | none => simp [hq] at hs
  | some i =>
    have hs1 : i.size = 1 := by simpa [hq] using hs
    unfold Instr.index
    simp [Sem.run_bind, asIntOf, run_underlying Try.underlying70, sizeOf, typeInfo, hq, hs1]
    rw [if_pos h]
    simp [part, isAgg, Sem.run_bind, run_underlying Try.underlying3, hg]
end Go.Proofs.Ytpibhiacmceekaa.X
end

section
namespace Go.Proofs.Ytpibhiacmceekaa.X
open Go.RowKit Go.Proofs.YtpibhiacmceekaaW.PrintWords Go.Proofs.YtpibhiacmceekaaW.PrintLast Go.Proofs.YtpibhiacmceekaaW.PrintMore
attribute [local go_sem] max2_int min2_int max_two min_two max_three min_three max_four min_four
set_option linter.unusedVariables false
set_option linter.unusedSimpArgs false
def lwBad (m x : Int) : Bool := decide (x < 0) || decide (m < x)
def levels_Write.f (k : Nat) (a0 : Int) (l1 : List Int) : Option (List Int × Int) :=
 if a0 < 0 then some ([], 2) else if 255 < a0 then some ([], 2) else if l1.any (lwBad a0) = true then some ([], 2) else if 65536 < (l1.length : Int) then some ([], 3) else if a0 = 0 then some ([], 0) else
  hybrid_Write.f k ((Nx.wd a0.toNat : Nat) : Int) l1
theorem levels_Write.mono : ∀ a0 l1 k, LeO (levels_Write.f k a0 l1) (levels_Write.f (k + 1) a0 l1) := by
 intro a0 l1 k
 unfold levels_Write.f
 exact LeO.ite (LeO.refl _) (LeO.ite (LeO.refl _) (LeO.ite (LeO.refl _) (LeO.ite (LeO.refl _) (LeO.ite (LeO.refl _) (hybrid_Write.mono _ _ _)))))
def lwOk (m : Int) : Bool := decide (0 ≤ m) && decide (m ≤ 255)
set_option maxHeartbeats 400000 in
theorem lw_right (m : Int) (w : World) : Calls Try.prog 46 #[.int .i64 m] w fun e w' => e = .returned (.bool (lwOk m)) ∧ w' = w := by
 by_cases c : 0 ≤ m
 ·have cb : decide (0 ≤ m) = true := decide_eq_true c
  have hr := Aside0.mk (show lwOk m = decide (m ≤ 255) by unfold lwOk; rw [cb]; rfl)
  clear c
  go_enter Try.func46, Try.ntmps46
  go_wp2
  go_ret
  exact ⟨by rw [hr.out]; rfl, rfl⟩
 ·have cb : decide (0 ≤ m) = false := decide_eq_false c
  have hr := Aside0.mk (show lwOk m = false by unfold lwOk; rw [cb]; rfl)
  clear c
  go_enter Try.func46, Try.ntmps46
  go_wp2
  go_ret
  exact ⟨by rw [hr.out]; rfl, rfl⟩
def LwEnd (w : World) (r1 : List Int) (r2 : Int) (e : Ending) (w' : World) : Prop := ∃ v0_ : Value, e = .returned (.tuple #[v0_, .int .i64 r2]) ∧ Kd.R (Kd.int .u8) 5 w' w.heap.size (fun _ => True) v0_ r1 ∧ Below w.heap.size w w'
theorem lw_end_nil {w w' : World} {r2 : Int} (h : Below w.heap.size w w') : LwEnd w [] r2 (.returned (.tuple #[.slice none 0 0, .int .i64 r2])) w' := ⟨_, rfl, Kd.R_nil _ _ _ _ _, h⟩
def LwJ (w : World) (r2 : Int) (a' : Act) (w' : World) : Prop := (∃ u0 u1 u2 u3 u4 u6 u7 u8 u9 u10 u11 u12 u13 u14 u15 u16 u17 u18 u19 u20 u21 u22 u23 u24 u25 u26 u27 u28 u29 u30 u31 u32 u33 u34 u35 u36 u37 : Value, a' = { tmps := #[u0, u1, u2, u3, u4, .int .i64 r2, u6, u7, u8, u9, u10, u11, u12, u13, u14, u15, u16, u17, u18, u19, u20, u21, u22, u23, u24, u25, u26, u27, u28, u29, u30, u31, u32, u33, u34, u35, u36, u37], defers := [] }) ∧ Below w.heap.size w w'
theorem lw_drop {l : List Int} {i : Nat} (h : i < l.length) : l.drop i = l.getD i 0 :: l.drop (i + 1) := by
 rw [List.drop_eq_getElem_cons h, List.getD_eq_getElem?_getD, List.getElem?_eq_getElem h]; rfl
set_option maxHeartbeats 4000000 in
set_option maxRecDepth 100000 in
theorem lw_walk (k : Nat) (A1 : Option Addr) (c1 : Nat) (l1 : List Int) (a0 : Int) (r1 : List Int) (r2 : Int) (w : World) (hr1 : Kd.C (Kd.int .i64) w A1 l1.length l1) (hc1 : l1.length ≤ c1) (h : levels_Write.f k a0 l1 = some (r1, r2)) :
  Calls Try.prog 23 #[.int .i64 a0, .slice A1 l1.length c1] w (LwEnd w r1 r2) := by
 have HR := Aside0.mk hr1
 have hl : l1.length ≤ 9223372036854775807 := hr1.2.1
 have HC := Aside0.mk (fun W => lw_right a0 W)
 have hh := Aside0.mk h
 clear h hr1
 go_enter Try.func23, Try.ntmps23
 go_wp2
 refine wp_scope_jumps 0 (fun a' w' => r1 = [] ∧ LwJ w r2 a' w') (fun _ _ => 0) rfl ?_ ?_
 rotate_left 1
 ·rintro a' w' ⟨rfl, ⟨u0, u1, u2, u3, u4, u6, u7, u8, u9, u10, u11, u12, u13, u14, u15, u16, u17, u18, u19, u20, u21, u22, u23, u24, u25, u26, u27, u28, u29, u30, u31, u32, u33, u34, u35, u36, u37, rfl⟩, hB⟩
  have HB := Aside0.mk hB
  clear hB hh
  go_wp2
  simp only [Exit.jump]
  go_ret2
  exact lw_end_nil HB.out
 ·by_cases c : a0 < 0
  ·have hok : lwOk a0 = false := by unfold lwOk; rw [decide_eq_false (show ¬ 0 ≤ a0 by omega)]; rfl
   have hk := Aside0.mk hok
   have h := hh.out
   unfold levels_Write.f at h
   rw [if_pos c] at h
   have hr := Aside0.mk (show [] = r1 ∧ 2 = r2 by simpa using h)
   clear h hh hok c
   go_wp2_with fail
   refine (HC.out _).mono ?_
   rw [hk.out]
   rintro e W1 ⟨rfl, rfl⟩
   go_wp2
   go_step3
   obtain ⟨rfl, rfl⟩ := hr.out
   exact ⟨rfl, rfl, ⟨_, _, _, _, _, _, _, _, _, _, _, _, _, _, _, _, _, _, _, _, _, _, _, _, _, _, _, _, _, _, _, _, _, _, _, _, _, rfl⟩, Below.refl _ _⟩
  by_cases c2 : 255 < a0
  ·have hok : lwOk a0 = false := by unfold lwOk; rw [decide_eq_false (show ¬ a0 ≤ 255 by omega), Bool.and_false]
   have hk := Aside0.mk hok
   have h := hh.out
   unfold levels_Write.f at h
   rw [if_neg c, if_pos c2] at h
   have hr := Aside0.mk (show [] = r1 ∧ 2 = r2 by simpa using h)
   clear h hh hok c c2
   go_wp2_with fail
   refine (HC.out _).mono ?_
   rw [hk.out]
   rintro e W1 ⟨rfl, rfl⟩
   go_wp2
   go_step3
   obtain ⟨rfl, rfl⟩ := hr.out
   exact ⟨rfl, rfl, ⟨_, _, _, _, _, _, _, _, _, _, _, _, _, _, _, _, _, _, _, _, _, _, _, _, _, _, _, _, _, _, _, _, _, _, _, _, _, rfl⟩, Below.refl _ _⟩
  have hok : lwOk a0 = true := by unfold lwOk; rw [decide_eq_true (show 0 ≤ a0 by omega), decide_eq_true (show a0 ≤ 255 by omega)]; rfl
  have hk := Aside0.mk hok
  have h := hh.out
  unfold levels_Write.f at h
  rw [if_neg c, if_neg c2] at h
  have hm0 : 0 ≤ a0 := by omega
  have hm1 : a0 ≤ 255 := by omega
  have HH := Aside0.mk h
  clear h hh hok c c2
  go_wp2_with fail
  refine (HC.out _).mono ?_
  rw [hk.out]
  rintro e W1 ⟨rfl, rfl⟩
  clear HC hk
  go_wp2
  go_loopw [13] (fun v13 w' => ∃ (j : Nat), v13 = .int .i64 j ∧ j ≤ l1.length ∧ Aside0 (l1.any (lwBad a0) = (l1.drop j).any (lwBad a0)) ∧ w' = W1) (fun v13 w' => l1.length - (intOf v13).toNat)
  case atStart => exact ⟨0, rfl, Nat.zero_le _, ⟨rfl⟩, rfl⟩
  case round =>
   obtain ⟨j, rfl, hj, HA, rfl⟩ := hrel
   by_cases hlt : j < l1.length
   ·have hA := HA.out
    rw [lw_drop hlt, List.any_cons] at hA
    obtain ⟨ad, rfl, hcell⟩ := c_at HR.out (j : Int) (by omega) (by omega)
    have e : rd l1 (j : Int) = l1.getD j 0 := rfl
    rw [e, show ((j : Int)).toNat = j from rfl] at hcell
    obtain ⟨x, hx⟩ : ∃ x, x = l1.getD j 0 := ⟨_, rfl⟩
    rw [← hx] at hcell hA
    clear e hx HA
    by_cases b1 : x < 0
    ·have hb1 := decide_eq_true b1
     have h := HH.out
     rw [if_pos (by rw [hA]; unfold lwBad; rw [hb1]; rfl)] at h
     have hr := Aside0.mk (show [] = r1 ∧ 2 = r2 by simpa using h)
     clear h hA b1
     go_wp2
     go_step3
     obtain ⟨rfl, rfl⟩ := hr.out
     exact ⟨rfl, rfl, ⟨_, _, _, _, _, _, _, _, _, _, _, _, _, _, _, _, _, _, _, _, _, _, _, _, _, _, _, _, _, _, _, _, _, _, _, _, _, rfl⟩, Below.refl _ _⟩
    ·have hb1 := decide_eq_false b1
     by_cases b2 : a0 < x
     ·have hb2 := decide_eq_true b2
      have h := HH.out
      rw [if_pos (by rw [hA]; unfold lwBad; rw [hb1, hb2]; rfl)] at h
      have hr := Aside0.mk (show [] = r1 ∧ 2 = r2 by simpa using h)
      clear h hA b1 b2
      go_wp2
      go_step3
      obtain ⟨rfl, rfl⟩ := hr.out
      exact ⟨rfl, rfl, ⟨_, _, _, _, _, _, _, _, _, _, _, _, _, _, _, _, _, _, _, _, _, _, _, _, _, _, _, _, _, _, _, _, _, _, _, _, _, rfl⟩, Below.refl _ _⟩
     ·have hb2 := decide_eq_false b2
      have HA' := Aside0.mk (show l1.any (lwBad a0) = (l1.drop (j + 1)).any (lwBad a0) by rw [hA]; unfold lwBad; rw [hb1, hb2]; rfl)
      clear hA b1 b2
      go_wp2
      go_roundw
      case rel => exact ⟨j + 1, by go_num, by omega, HA', trivial⟩
      case measure => simp [intOf]; omega
   ·have hA := HA.out
    rw [List.drop_eq_nil_of_le (by omega)] at hA
    have h := HH.out
    rw [if_neg (by rw [hA]; simp)] at h
    clear hA HA HH
    by_cases c3 : 65536 < (l1.length : Int)
    ·have hc3 := decide_eq_true c3
     rw [if_pos c3] at h
     have hr := Aside0.mk (show [] = r1 ∧ 3 = r2 by simpa using h)
     clear h c3
     go_wp2
     go_step3
     obtain ⟨rfl, rfl⟩ := hr.out
     exact ⟨rfl, rfl, ⟨_, _, _, _, _, _, _, _, _, _, _, _, _, _, _, _, _, _, _, _, _, _, _, _, _, _, _, _, _, _, _, _, _, _, _, _, _, rfl⟩, Below.refl _ _⟩
    have hc3 := decide_eq_false c3
    rw [if_neg c3] at h
    by_cases c4 : a0 = 0
    ·have hc4 : (a0 == 0) = true := by simp [c4]
     rw [if_pos c4] at h
     have hr := Aside0.mk (show [] = r1 ∧ 0 = r2 by simpa using h)
     clear h c3 c4
     go_wp2
     simp only [Exit.jump]
     go_ret2
     obtain ⟨rfl, rfl⟩ := hr.out
     exact lw_end_nil (Below.refl _ _)
    have hc4 : (a0 == 0) = false := by simp [c4]
    rw [if_neg c4] at h
    have HH := Aside0.mk h
    have HT := Aside0.mk (fun W => lv_table W)
    obtain ⟨m, rfl⟩ := Int.eq_ofNat_of_zero_le hm0
    have ht := fun W => lv_index m (by omega) W
    have HH' := Aside0.mk (fun W hv => hybrid_Write.calls k ((Nx.wd m : Nat) : Int) (fun _ => True) A1 c1 l1 r1 r2 W hv HH.out)
    clear h c3 c4 HH
    obtain ⟨wm, hwm⟩ : ∃ x : Int, x = ((Nx.wd m : Nat) : Int) := ⟨_, rfl⟩
    rw [← hwm] at ht HH'
    clear hwm
    go_wp2_with fail
    refine (HT.out _).mono ?_
    rintro e W2 ⟨rfl, hB⟩
    have HB := Aside0.mk hB
    clear hB HT
    go_wp2_with fail
    refine (HH'.out W2 (v_of_c (Kd.C_below HR.out HB.out) hc1)).mono ?_
    rintro e W3 ⟨v0, rfl, hR, hB⟩
    have HB3 := Aside0.mk (HB.out.trans (hB.mono HB.out.size))
    have HR3 := Aside0.mk (Kd.R_lower (Kd.R_mono hR (fun _ _ => trivial)) HB.out.size : Kd.R (Kd.int .u8) 5 W3 _ (fun _ => True) v0 r1)
    clear hR hB HB HH' ht
    go_wp2
    simp only [Exit.jump]
    go_ret2
    exact ⟨_, rfl, HR3.out, HB3.out⟩
theorem levels_Write.calls (k : Nat) (a0 : Int) (A1 : Option Addr) (c1 : Nat) (l1 : List Int) (r1 : List Int) (r2 : Int) (w : World) (hr1 : Kd.C (Kd.int .i64) w A1 l1.length l1) (hc1 : l1.length ≤ c1) (h : levels_Write.f k a0 l1 = some (r1, r2)) :
  Calls Try.prog 23 #[.int .i64 a0, .slice A1 l1.length c1] w fun e w' => ∃ v0_ : Value, e = .returned (.tuple #[v0_, .int .i64 r2]) ∧ Kd.R (Kd.int .u8) 5 w' w.heap.size (fun _ => True) v0_ r1 ∧ Below w.heap.size w w' :=
 lw_walk k A1 c1 l1 a0 r1 r2 w hr1 hc1 h
end Go.Proofs.Ytpibhiacmceekaa.X
end

section
namespace Go.Proofs.Ytpibhiacmceekaa.X
open Go.RowKit Go.Proofs.YtpibhiacmceekaaW.PrintWords Go.Proofs.YtpibhiacmceekaaW.PrintLast Go.Proofs.YtpibhiacmceekaaW.PrintMore
attribute [local go_sem] max2_int min2_int max_two min_two max_three min_three max_four min_four
set_option linter.unusedVariables false
set_option linter.unusedSimpArgs false
def levels_Framed.f (k : Nat) (a0 : Int) (l1 : List Int) : Option (List Int × Int) := (levels_Write.f k a0 l1).bind fun bt320 => (if bt320.2 = 0 then (if a0 = 0 then (some (([] : List Int), bt320.2)) else ((bits_Little.f k (IntKind.u64.wrap ((bt320.1.length : Int))) 4).bind fun bt324 => (if bt324.1.length + bt320.1.length < 140737488355328 then (some ((bt324.1 ++ bt320.1), 0)) else (none)))) else (some (([] : List Int), bt320.2)))
theorem levels_Framed.mono : ∀ a0 a1 k, LeO (levels_Framed.f k a0 a1) (levels_Framed.f (k + 1) a0 a1) := by
 intro a0 a1 k
 unfold levels_Framed.f
 repeat' first
   | (with_reducible exact bits_Little.mono _ _ _)
   | (with_reducible exact levels_Write.mono _ _ _)
   | (with_reducible exact LeO.refl _)
   | (with_reducible exact LeO.none _)
   | (with_reducible refine LeO.ite ?_ ?_)
   | (with_reducible refine LeO.bind ?_ (fun _ => ?_))
   | exact bits_Little.mono _ _ _
   | exact levels_Write.mono _ _ _
   | exact LeO.none _
   | refine LeO.ite ?_ ?_
   | refine LeO.bind ?_ (fun _ => ?_)
set_option maxHeartbeats 8000000 in
set_option maxRecDepth 100000 in
theorem levels_Framed.calls (k : Nat) (a0 : Int) (A1 : Option Addr) (c1 : Nat) (l1 : List Int) (r1 : List Int) (r2 : Int) (w : World) (hr1 : Kd.C (Kd.int .i64) w A1 l1.length l1) (hc1 : l1.length ≤ c1) (h : levels_Framed.f k a0 l1 = some (r1, r2)) :
  Calls Try.prog 25 #[.int .i64 a0, .slice A1 l1.length c1] w fun e w' => ∃ v0_ : Value, e = .returned (.tuple #[v0_, .int .i64 r2]) ∧ Kd.R (Kd.int .u8) 5 w' w.heap.size (fun _ => True) v0_ r1 ∧ Below w.heap.size w w' := by
 have HR1 := Aside0.mk hr1
 have HC1 := Aside0.mk hc1
 clear hr1 hc1
 have HB := Aside0.mk (Below.refl w.heap.size w)
 have H : ((levels_Write.f k a0 l1).bind fun bt320 => (if bt320.2 = 0 then (if a0 = 0 then (some (([] : List Int), bt320.2)) else ((bits_Little.f k (IntKind.u64.wrap ((bt320.1.length : Int))) 4).bind fun bt324 => (if bt324.1.length + bt320.1.length < 140737488355328 then (some ((bt324.1 ++ bt320.1), 0)) else (none)))) else (some (([] : List Int), bt320.2)))) = some (r1, r2) := h
 clear h
 replace H := Option.bind_eq_some_iff.mp H
 obtain ⟨⟨t320, t321⟩, A30, H⟩ := H
 replace H : (if t321 = 0 then (if a0 = 0 then (some (([] : List Int), t321)) else ((bits_Little.f k (IntKind.u64.wrap ((t320.length : Int))) 4).bind fun bt324 => (if bt324.1.length + t320.length < 140737488355328 then (some ((bt324.1 ++ t320), 0)) else (none)))) else (some (([] : List Int), t321))) = some (r1, r2) := H
 have A3 := Aside0.mk A30
 clear A30
 by_cases c4 : t321 = 0
 ·rw [if_pos c4] at H
  have c4b0 : (t321 == 0) = true := beq_iff_eq.mpr c4
  have c4b1 : (t321 != 0) = false := bne_eq_false_iff_eq.mpr c4
  clear c4
  by_cases c5 : a0 = 0
  ·rw [if_pos c5] at H
   have c5b0 : (a0 == 0) = true := beq_iff_eq.mpr c5
   have c5b1 : (a0 != 0) = false := bne_eq_false_iff_eq.mpr c5
   clear c5
   simp only [Option.some.injEq, Prod.mk.injEq] at H
   obtain ⟨rfl, rfl⟩ := H
   go_enter Try.func25, Try.ntmps25
   go_wp2_with (first | ((with_reducible refine gate_callee (f := 23) rfl ?_); refine goesL_ (some 13) rfl rfl Try.func23 (by kernel_rfl) rfl #[.int .i64 a0, .slice A1 l1.length c1] rfl (by (try simp only [List.map_toArray, List.map_cons, List.map_nil]); first | done | rfl | (simp only [List.length_drop, List.length_take]; rfl)) ?_; (with_reducible refine (levels_Write.calls k a0 _ _ l1 t320 t321 _ ?side1 ?side2 A3.out).mono ?_); (case side1 => repeat (first | exact HR1.out | (with_reducible refine Kd.C_alloc ?_ _) | (with_reducible refine Kd.C_drewN ?_ _) | (with_reducible refine Kd.C_drew ?_))); (case side2 => exact HC1.out); rintro e w6 ⟨v322, rfl, ho0, hb⟩; refine ⟨_, rfl, ?_⟩; have n0_ := Aside0.mk (Kd.R_lower ho0 (below_size (by repeat (first | (with_reducible first | exact HB.out | apply below_alloc | apply pw_below_drewN | apply below_drew1) | exact HB.out)))); have n1_ := Aside0.mk (below_step (by repeat (first | (with_reducible first | exact HB.out | apply below_alloc | apply pw_below_drewN | apply below_drew1) | exact HB.out)) hb); clear HB; have HO323 := n0_; have HB := n1_; clear n0_ n1_; (try clear hb); (try clear hb2); (try clear hk); (try clear hi); (try clear ho0)))
   go_ret2
   exact ⟨_, by first | rfl | (simp [errW_none, errW_some] <;> rfl) | (simp [*, errW_none, errW_some] <;> rfl), by first | exact Kd.R_nil _ _ _ _ _ | exact Kd.N_nil _ _ _ _ _ | exact Kd.V_nil _ _ _ _ _ | exact Kd.Q_nil _ _ _ _ _ | exact Kd.S_nil _ _ _ _ _, by repeat (first | (with_reducible first | exact HB.out | apply below_alloc | apply pw_below_drewN | apply below_drew1) | exact HB.out)⟩
  ·rw [if_neg c5] at H
   have c5b0 : (a0 == 0) = false := beq_eq_false_iff_ne.mpr c5
   have c5b1 : (a0 != 0) = true := bne_iff_ne.mpr c5
   replace H := Option.bind_eq_some_iff.mp H
   obtain ⟨⟨t324, t325⟩, A70, H⟩ := H
   replace H : (if t324.length + t320.length < 140737488355328 then (some ((t324 ++ t320), 0)) else (none)) = some (r1, r2) := H
   have A7 := Aside0.mk A70
   clear A70
   by_cases c8 : t324.length + t320.length < 140737488355328
   ·rw [if_pos c8] at H
    have LMc8 := Aside0.mk c8
    clear c8
    obtain ⟨y328, hy328⟩ : ∃ y_ : List Int, y_ = (t324 ++ t320) := ⟨_, rfl⟩
    replace H : (some (y328, 0)) = some (r1, r2) := by first | (rw [hy328]; with_reducible exact H) | (have H2_ := (Option.bind_some _ _).symm.trans H; rw [hy328]; with_reducible exact H2_) | (have H2_ := (Option.bind_some _ _).symm.trans H; with_reducible exact H2_) | with_reducible exact H | (rw [hy328]; exact H) | exact H
    have Ny328 := Aside0.mk hy328
    clear hy328
    simp only [Option.some.injEq, Prod.mk.injEq] at H
    obtain ⟨rfl, rfl⟩ := H
    go_enter Try.func25, Try.ntmps25
    go_wp2_with (first | ((with_reducible refine gate_callee (f := 23) rfl ?_); refine goesL_ (some 13) rfl rfl Try.func23 (by kernel_rfl) rfl #[.int .i64 a0, .slice A1 l1.length c1] rfl (by (try simp only [List.map_toArray, List.map_cons, List.map_nil]); first | done | rfl | (simp only [List.length_drop, List.length_take]; rfl)) ?_; (with_reducible refine (levels_Write.calls k a0 _ _ l1 t320 t321 _ ?side1 ?side2 A3.out).mono ?_); (case side1 => repeat (first | exact HR1.out | (with_reducible refine Kd.C_alloc ?_ _) | (with_reducible refine Kd.C_drewN ?_ _) | (with_reducible refine Kd.C_drew ?_))); (case side2 => exact HC1.out); rintro e w9 ⟨v322, rfl, ho0, hb⟩; refine ⟨_, rfl, ?_⟩; have n0_ := Aside0.mk (Kd.R_lower ho0 (below_size (by repeat (first | (with_reducible first | exact HB.out | apply below_alloc | apply pw_below_drewN | apply below_drew1) | exact HB.out)))); have n1_ := Aside0.mk (below_step (by repeat (first | (with_reducible first | exact HB.out | apply below_alloc | apply pw_below_drewN | apply below_drew1) | exact HB.out)) hb); clear HB; have HO323 := n0_; have HB := n1_; clear n0_ n1_; (try clear hb); (try clear hb2); (try clear hk); (try clear hi); (try clear ho0); obtain ⟨Ao10, co10, eo10⟩ := Kd.R_slice HO323.out; subst eo10) | ((with_reducible refine gate_callee (f := 39) rfl ?_); refine goesL_ (some 27) rfl rfl Try.func39 (by kernel_rfl) rfl #[.int .u64 (IntKind.u64.wrap ((t320.length : Int))), .int .i64 4] rfl (by (try simp only [List.map_toArray, List.map_cons, List.map_nil]); first | done | rfl | (simp only [List.length_drop, List.length_take]; rfl)) ?_; (with_reducible refine (bits_Little.calls k (IntKind.u64.wrap ((t320.length : Int))) 4 t324 t325 _ A7.out).mono ?_); rintro e w11 ⟨v326, rfl, ho0, hb⟩; refine ⟨_, rfl, ?_⟩; have n0_ := Aside0.mk (Kd.R_elder' (by (with_reducible repeat (first | apply Kd.R_alloc | apply Kd.R_drewN | apply Kd.R_drew)); exact HO323.out) (Kd.R_base ho0) hb); have n1_ := Aside0.mk (Kd.R_lower (Kd.R_new' ho0 (Kd.R_lt (by (with_reducible repeat (first | apply Kd.R_alloc | apply Kd.R_drewN | apply Kd.R_drew)); exact HO323.out))) (below_size (by repeat (first | (with_reducible first | exact HB.out | apply below_alloc | apply pw_below_drewN | apply below_drew1) | exact HB.out)))); have n2_ := Aside0.mk (below_step (by repeat (first | (with_reducible first | exact HB.out | apply below_alloc | apply pw_below_drewN | apply below_drew1) | exact HB.out)) hb); clear HO323; clear HB; have HO323 := n0_; have HO327 := n1_; have HB := n2_; clear n0_ n1_ n2_; (try clear hb); (try clear hb2); (try clear hk); (try clear hi); (try clear ho0)) | ((with_reducible refine gate_builtin (b := .append) (xs := #[.tmp 30, .tmp 31]) rfl ?_); at_builtin; refine Kd.R_append_rows (Kd.int .u8) (w0 := w) w.heap.size rfl (.tmp 30) (.tmp 31) 37 5 (.int .u8 0) 1 rfl Try.underlying37 info5 rfl (by decide) (by omega) v326 t324 t320 _ _ _ (fun k_ => some k_ ≠ (.slice Ao10 t320.length co10 : Value).ownBlock) (fun _ => False) rfl rfl ?aO ?aR (fun _ _ h => h) (fun _ h => h.elim) ?aF ?aB ?aS ?aL ?_; (case aR => repeat (first | exact (Kd.R_reads' HO323.out).2.2 | (with_reducible refine Kd.C_alloc ?_ _) | (with_reducible refine Kd.C_drewN ?_ _) | (with_reducible refine Kd.C_drew ?_))); (case aB => exact (by repeat (first | (with_reducible first | exact HB.out | apply below_alloc | apply pw_below_drewN | apply below_drew1) | exact HB.out))); (case aF => exact (fun k_ hk => Kd.fresh' (Kd.R_lt (by (with_reducible repeat (first | apply Kd.R_alloc | apply Kd.R_drewN | apply Kd.R_drew)); exact HO323.out)) k_ hk)); (case aO => exact (by (with_reducible repeat (first | apply Kd.R_alloc | apply Kd.R_drewN | apply Kd.R_drew)); exact Kd.R_mono HO327.out (fun _ hk => hk.2))); (case aS => exact (below_size (by repeat (first | (with_reducible first | exact HB.out | apply below_alloc | apply pw_below_drewN | apply below_drew1) | exact HB.out)))); (case aL => have := LMc8.out; omega); intro v329 w12 ho hb hg hat; rw [← Ny328.out] at ho; have n0_ := Aside0.mk (Kd.R_after (ok := (fun _ => True)) (by (with_reducible repeat (first | apply Kd.R_alloc | apply Kd.R_drewN | apply Kd.R_drew)); exact HO323.out) hg hat); have n1_ := Aside0.mk (hb); have n2_ := Aside0.mk (ho); clear HO323; clear HB; clear HO327; have HO323 := n0_; have HB := n1_; have HO330 := n2_; clear n0_ n1_ n2_; clear ho hb hg hat))
    go_ret2
    exact ⟨_, by first | rfl | (simp [errW_none, errW_some] <;> rfl) | (simp [*, errW_none, errW_some] <;> rfl), by (with_reducible repeat (first | apply Kd.R_alloc | apply Kd.R_drewN | apply Kd.R_drew)); exact Kd.R_mono HO330.out (fun _ hk => trivial), by repeat (first | (with_reducible first | exact HB.out | apply below_alloc | apply pw_below_drewN | apply below_drew1) | exact HB.out)⟩
   ·rw [if_neg c8] at H
    exact absurd H (by simp)
 ·rw [if_neg c4] at H
  have c4b0 : (t321 == 0) = false := beq_eq_false_iff_ne.mpr c4
  have c4b1 : (t321 != 0) = true := bne_iff_ne.mpr c4
  simp only [Option.some.injEq, Prod.mk.injEq] at H
  obtain ⟨rfl, rfl⟩ := H
  go_enter Try.func25, Try.ntmps25
  go_wp2_with (first | ((with_reducible refine gate_callee (f := 23) rfl ?_); refine goesL_ (some 13) rfl rfl Try.func23 (by kernel_rfl) rfl #[.int .i64 a0, .slice A1 l1.length c1] rfl (by (try simp only [List.map_toArray, List.map_cons, List.map_nil]); first | done | rfl | (simp only [List.length_drop, List.length_take]; rfl)) ?_; (with_reducible refine (levels_Write.calls k a0 _ _ l1 t320 t321 _ ?side1 ?side2 A3.out).mono ?_); (case side1 => repeat (first | exact HR1.out | (with_reducible refine Kd.C_alloc ?_ _) | (with_reducible refine Kd.C_drewN ?_ _) | (with_reducible refine Kd.C_drew ?_))); (case side2 => exact HC1.out); rintro e w13 ⟨v322, rfl, ho0, hb⟩; refine ⟨_, rfl, ?_⟩; have n0_ := Aside0.mk (Kd.R_lower ho0 (below_size (by repeat (first | (with_reducible first | exact HB.out | apply below_alloc | apply pw_below_drewN | apply below_drew1) | exact HB.out)))); have n1_ := Aside0.mk (below_step (by repeat (first | (with_reducible first | exact HB.out | apply below_alloc | apply pw_below_drewN | apply below_drew1) | exact HB.out)) hb); clear HB; have HO323 := n0_; have HB := n1_; clear n0_ n1_; (try clear hb); (try clear hb2); (try clear hk); (try clear hi); (try clear ho0)))
  go_ret2
  exact ⟨_, by first | rfl | (simp [errW_none, errW_some] <;> rfl) | (simp [*, errW_none, errW_some] <;> rfl), by first | exact Kd.R_nil _ _ _ _ _ | exact Kd.N_nil _ _ _ _ _ | exact Kd.V_nil _ _ _ _ _ | exact Kd.Q_nil _ _ _ _ _ | exact Kd.S_nil _ _ _ _ _, by repeat (first | (with_reducible first | exact HB.out | apply below_alloc | apply pw_below_drewN | apply below_drew1) | exact HB.out)⟩
end Go.Proofs.Ytpibhiacmceekaa.X
end

section
namespace Go.Proofs.Ytpibhiacmceekaa.X
open Go.RowKit Go.Proofs.YtpibhiacmceekaaW.PrintWords Go.Proofs.YtpibhiacmceekaaW.PrintLast Go.Proofs.YtpibhiacmceekaaW.PrintMore
def plainOp : Op → Bool
  | .move _ | .assign _ | .load _ _ | .store _ _ _ | .binOp _ _ _ _ _ | .unOp _ _ _ | .convert _ _ _ | .indexAddr _ _ _ | .fieldAddr _ _ _ => true
  | _ => false
theorem plain_run {P : Program} {o : Oper} (h : plainOp o.op = true) (ρ : Operand → Value) (w : World) :
    (∃ v w', (execOp ρ o).run P w = .ok (.value v) w') ∨ (∃ w', (execOp ρ o).run P w = .ok .skip w') ∨ ∃ e w', (execOp ρ o).run P w = .halt e w' := by
  have val : ∀ s : Sem Value, (∃ v w', (do pure (Next.value (← s)) : Sem Next).run P w = .ok (.value v) w') ∨ (∃ w', (do pure (Next.value (← s)) : Sem Next).run P w = .ok .skip w') ∨ ∃ e w', (do pure (Next.value (← s)) : Sem Next).run P w = .halt e w' := by
    intro s
    cases hs : s.run P w with
    | ok a w' => exact .inl ⟨a, w', by simp [go_sem, hs]⟩
    | halt e w' => exact .inr (.inr ⟨e, w', by simp [go_sem, hs]⟩)
  have unit : ∀ s : Sem Unit, (∃ v w', (do s; pure Next.skip : Sem Next).run P w = .ok (.value v) w') ∨ (∃ w', (do s; pure Next.skip : Sem Next).run P w = .ok .skip w') ∨ ∃ e w', (do s; pure Next.skip : Sem Next).run P w = .halt e w' := by
    intro s
    cases hs : s.run P w with
    | ok a w' => exact .inr (.inl ⟨w', by simp [go_sem, hs]⟩)
    | halt e w' => exact .inr (.inr ⟨e, w', by simp [go_sem, hs]⟩)
  unfold execOp
  cases ho : o.op <;> rw [ho] at h <;> simp [plainOp] at h <;> simp only <;> first | exact val _ | exact unit _ | exact .inl ⟨_, _, rfl⟩
theorem plain_about {P : Program} {o : Oper} (h : plainOp o.op = true) (ρ : Operand → Value) (w : World) : o.about P w ρ = none := by
  unfold Oper.about
  cases ho : o.op <;> rw [ho] at h <;> simp [plainOp] at h <;> rfl
theorem plain_semAt {o : Oper} (h : plainOp o.op = true) (ro : Option Nat) (ρ : Operand → Value) : o.semAt ro ρ = execOp ρ o :=
  Oper.semAt_eq ro ρ o (fun c hc => by rw [hc] at h; simp [plainOp] at h)
theorem plain_in {F : Fence} {n : Nat} {P : Program} {ops : Array Oper} {K : Act → World → Prop} {Q : Exit → Act → World → Prop} (hp : ∀ (i : Nat) (o : Oper), ops[i]? = some o → plainOp o.op = true) (hK : ∀ a w, K a w → Q .normal a w) :
    ∀ (L : List Nat) (a : Act) (w : World), wpOps P ops (fun e a w => e = .normal ∧ K a w) L a w → wpOpsIn F n P ops Q L a w
  | [], a, w, h => hK _ _ h.2
  | i :: L, a, w, h => by
    unfold wpOps at h
    unfold wpOpsIn
    cases ho : ops[i]? with
    | none => simp only [ho] at h ⊢; exact plain_in hp hK L a w h
    | some o =>
      have hpo := hp i o ho
      simp only [ho] at h ⊢
      by_cases hw : Region.wanted o (yielded ops a.tmps) = true
      · rw [if_pos hw] at h ⊢
        rcases h with h | ⟨_, _, _, h⟩
        · refine ⟨(fun f hf => by rw [plain_about hpo] at hf; cases hf), ?_⟩
          rw [plain_semAt hpo]
          unfold Oper.wp at h
          rcases plain_run (P := P) hpo a.eval w with ⟨v, w', e⟩ | ⟨w', e⟩ | ⟨x, w', e⟩
          · rw [e] at h ⊢; exact plain_in hp hK L _ _ h
          · rw [e] at h ⊢; exact plain_in hp hK L _ _ h
          · rw [e] at h ⊢
            cases x <;> first | exact absurd h.1 (by simp) | exact absurd h (by simp [Oper.upon])
        · exact absurd h.1 (by simp)
      · rw [if_neg hw] at h ⊢
        exact ⟨(fun f hf => by rw [plain_about hpo] at hf; cases hf), plain_in hp hK L _ _ h⟩
theorem region_tail_in {F : Fence} {m : Nat} {P : Program} {id : Nat} {Q : Exit → Act → World → Prop} {a : Act} {w : World} {l : List Oper} (n : Nat) (hm : P.follows .mixedOrders = true) (hB : Region.lexTailB .any l.toArray n = true) (hp : l.all (fun o => plainOp o.op) = true)
    (h : ∀ w3 : World, w3 = w.drew → wpStill P l.toArray w3 (fun a' => wpList P l.toArray (fun e a w => e = .normal ∧ Q .normal a w) (l.drop n) a' w3) (l.take n) a) : (Code.region id l.toArray true).wpIn F m P Q a w := by
  have h := h _ rfl
  simp only [Region.lexTailB, Bool.and_eq_true, decide_eq_true_eq] at hB
  obtain ⟨⟨⟨⟨hsel, hn⟩, hs⟩, hc⟩, hlex⟩ := hB
  have hn' : n < l.length := by simpa using hn
  have htl : (l.take n).length = n := by simp; omega
  have hdl : (l.drop n).length = l.toArray.size - n := by simp
  have inv0 : HeadInv .any l.toArray n (Array.replicate l.toArray.size false) :=
    ⟨by simp, fun j oj _ hl => (by rw [getD_replicate_false] at hl; cases hl), fun t _ ht => getD_in (by simpa using ht) (getD_replicate_false _ _)⟩
  have H := wpAnyL_lex (md := .any) (g := l.toArray.size - n) hsel hs hc hn (l.take n) 0 _ a (fun j hj => by
    have hj' : j < n := by rw [htl] at hj; exact hj
    simp [hj']) (by simpa using htl) inv0 (by rw [htl]; exact hlex) h
  have H2 := wpAny_of_head (Q' := fun e a w => e = .normal ∧ Q .normal a w) (g := l.toArray.size - n) (fun listed a' hL => by
    have := wpAny_of_seq (md := .any) (Q' := fun e a w => e = .normal ∧ Q .normal a w) (l.drop n) n listed a' w.drew (fun j => by simp [List.getElem?_drop]) (by rw [hdl]; exact hL.1) hL.2
    rwa [hdl] at this) _ _ _ H
  rw [htl, show n + (l.toArray.size - n) = l.toArray.size by omega] at H2
  refine wpIn_region_draw fun t => ?_
  simp only [Region.schedule, hm, Bool.true_or, if_true]
  refine plain_in (K := fun a w => Q .normal a w) (fun i o ho => ?_) (fun _ _ h => h) _ _ _ (wpAny_sound l.toArray.size t _ a _ H2)
  have : o ∈ l := by simpa using Array.mem_of_getElem? ho
  exact List.all_eq_true.1 hp o this
end Go.Proofs.Ytpibhiacmceekaa.X
end

section
namespace Go.Proofs.Ytpibhiacmceekaa.X
open Go.RowKit Go.Proofs.YtpibhiacmceekaaW.PrintWords Go.Proofs.YtpibhiacmceekaaW.PrintLast Go.Proofs.YtpibhiacmceekaaW.PrintMore Go.Shelf
attribute [local go_sem] Oper.semAt_some
set_option linter.unusedVariables false
set_option linter.unusedSimpArgs false
def bitv (x : Int) (t : Nat) : Int := wrap64 (bits .and .u8 (x / 2 ^ t) 1)
def allB (xs : List Int) (m : Nat) : List Int := (List.range m).map fun j => bitv (xs.getD (j / 8) 0) (j % 8)
theorem allB_succ (xs : List Int) (m : Nat) : allB xs (m + 1) = allB xs m ++ [bitv (xs.getD (m / 8) 0) (m % 8)] := by simp [allB, List.range_succ]
theorem allB_length (xs : List Int) (m : Nat) : (allB xs m).length = m := by simp [allB]
set_option maxRecDepth 100000 in
set_option maxHeartbeats 2000000 in
theorem bits1_in (F : Fence) (n : Nat) (hF : F.fn 78) (hro : F.round = none) (hn : 1 ≤ n) (l Bs n₀ c : Nat) (A : Option Addr) (xs : List Int) (w0 : World) (hC : Kd.C (Kd.int .u8) w0 A xs.length xs) (hlen : xs.length ≤ 1000000000000) (h0w : w0.heap.size = n₀) (J Jx : List Int → World → Prop)
    (hY : ∀ pre x W, J pre W → pre.length < 8 * xs.length → YieldAt F (n - 1) Try.prog l #[.int .i64 x] W fun e W' =>
      (e = .returned (.bool true) ∧ J (pre ++ [x]) W' ∧ Below n₀ W W') ∨ (e = .returned (.bool false) ∧ Jx (pre ++ [x]) W'))
    (W : World) (hW : Below n₀ w0 W) (hBs : W.cell? ⟨Bs, 0, none⟩ = some (.slice A xs.length c)) (h0 : J [] W) :
    CallsIn F n Try.prog 78 #[.func (.yield l) #[] #[], .pointer (some ⟨Bs, 0, none⟩)] W fun e W' => (∃ v, e = .returned v) ∧
      ((∃ ys, ys = allB xs (8 * xs.length) ∧ J ys W') ∨ (∃ pre, (∃ m, m ≤ 8 * xs.length ∧ pre = allB xs m) ∧ Jx pre W')) := by
  refine callsIn_of_wp Try.func78 rfl hF ?_ hro
  simp only [Try.ntmps78, List.size_toArray, List.length_cons, List.length_nil, Nat.reduceAdd, Nat.reduceSub, Array.replicate_succ, Array.replicate_zero, List.push_toArray, List.append_toArray, List.nil_append, List.cons_append]
  have HC := Aside0.mk hC
  have HY := Aside0.mk hY
  have h0w := Aside0.mk h0w
  clear hC hY
  gi_wp2
  gi_loopw [8] (fun v8 wr => ∃ i : Nat, v8 = .int .i64 i ∧ i ≤ xs.length ∧ Aside0 (J (allB xs (8 * i)) wr) ∧ Aside0 (Below n₀ w0 wr)) (fun v8 _ => xs.length - (intOf v8).toNat)
  case atStart => exact ⟨0, rfl, Nat.zero_le _, ⟨h0⟩, ⟨hW⟩⟩
  case round =>
    obtain ⟨i, rfl, hi, HJ, HB⟩ := hrel
    by_cases hlt : i < xs.length
    · obtain ⟨ad, rfl, hcell⟩ := c_at (Kd.C_below HC.out (by have := HB.out; rw [← h0w.out] at this; exact this)) (i : Int) (by omega) (by omega)
      have e : rd xs (i : Int) = xs.getD i 0 := rfl
      rw [e, show ((i : Int)).toNat = i from rfl] at hcell
      obtain ⟨x, hx⟩ : ∃ x, x = xs.getD i 0 := ⟨_, rfl⟩
      rw [← hx] at hcell
      have Hx := Aside0.mk hx
      clear e hx
      gi_wp2
      obtain ⟨wo, rfl⟩ : ∃ wo : World, wo = wr := ⟨_, rfl⟩
      gi_loopw [12] (fun v12 wr => ∃ t : Nat, v12 = .int .i64 t ∧ t ≤ 8 ∧ Aside0 (J (allB xs (8 * i + t)) wr) ∧ Aside0 (Below n₀ w0 wr)) (fun v12 _ => 8 - (intOf v12).toNat)
      case atStart => exact ⟨0, rfl, by omega, by simpa using HJ, HB⟩
      case round =>
        clear HJ HB hcell
        obtain ⟨t, rfl, ht, HJ, HB⟩ := hrel
        by_cases hlt8 : t < 8
        · obtain ⟨fn, tmps, assign, body, hy, hR⟩ := HY.out _ (bitv x t) wr HJ.out (by rw [allB_length]; omega)
          have hJ1 := Aside0.mk (show allB xs (8 * i + t) ++ [bitv x t] = allB xs (8 * i + (t + 1)) by rw [← Nat.add_assoc, allB_succ, Hx.out, show (8 * i + t) / 8 = i by omega, show (8 * i + t) % 8 = t by omega])
          have hml := Aside0.mk (show 8 * i + (t + 1) ≤ 8 * xs.length by omega)
          simp only [bitv] at hy
          clear HJ
          gi_wp2
          refine hR.mono ?_
          rintro e W3 (⟨rfl, hJ3, hk3⟩ | ⟨rfl, hJx3⟩)
          · rw [hJ1.out] at hJ3
            have HJ3 := Aside0.mk hJ3
            have HB3 := Aside0.mk (HB.out.trans hk3)
            clear hJ3 hk3
            gi_wp2
            go_roundw
            case rel => exact ⟨t + 1, by go_num, by omega, HJ3, HB3⟩
            case measure => simp [intOf]; omega
          · rw [hJ1.out] at hJx3
            have HJ3 := Aside0.mk hJx3
            clear hJx3
            gi_wp2
            refine bodyPost_ret (results_none rfl _ _ _) rfl ?_
            exact ⟨⟨_, rfl⟩, .inr ⟨_, ⟨8 * i + (t + 1), hml.out, rfl⟩, HJ3.out⟩⟩
        · obtain rfl : t = 8 := by omega
          gi_wp2
          go_roundw
          case rel => exact ⟨i + 1, by go_num, by omega, by rw [show 8 * (i + 1) = 8 * i + 8 by omega]; exact HJ, HB⟩
          case measure => simp [intOf]; omega
    · obtain rfl : i = xs.length := by omega
      gi_wp2
      go_end0
      exact ⟨⟨_, rfl⟩, .inl ⟨_, rfl, HJ.out⟩⟩
set_option maxHeartbeats 1000000 in
theorem bits_in (A : Option Addr) (c : Nat) (xs : List Int) (w : World) :
    Calls Try.prog 77 #[.slice A xs.length c] w fun e w' => e = .returned (.func (.func 78) #[] #[.pointer (some ⟨w.heap.size, 0, none⟩)]) ∧ w' = w.alloc (.cells #[.slice A xs.length c] 37) := by
  go_enter Try.func77, Try.ntmps77
  go_wp2
  go_ret
  exact ⟨rfl, rfl⟩
theorem bits_stops (F : Fence) (n : Nat) (hF : F.fn 78) (hro : F.round = none) (hn : 1 ≤ n) (Bs n₀ c : Nat) (A : Option Addr) (xs : List Int) (w0 w : World) (hC : Kd.C (Kd.int .u8) w0 A xs.length xs) (hlen : xs.length ≤ 1000000000000) (h0w : w0.heap.size = n₀) (hb : Below n₀ w0 w) (hBs : Bs < w.heap.size)
    (hc : w.cell? ⟨Bs, 0, none⟩ = some (.slice A xs.length c)) :
    SeqStopsK F n Try.prog 78 #[.pointer (some ⟨Bs, 0, none⟩)] (fun x : Int => #[Value.int .i64 x]) (Below n₀) (fun ys => ys = allB xs (8 * xs.length)) (fun pre => ∃ m, m ≤ 8 * xs.length ∧ pre = allB xs m) (8 * xs.length) w := fun l J Jx W hW _ _ hY h0 =>
  bits1_in F n hF hro hn l Bs n₀ c A xs w0 hC hlen h0w J Jx hY W (hb.trans (hW.mono (by have := hb.size; omega))) ((hW.cell (p := ⟨Bs, 0, none⟩) hBs).trans hc) h0
end Go.Proofs.Ytpibhiacmceekaa.X
end

section
namespace Go.Proofs.Ytpibhiacmceekaa.X
open Go.RowKit Go.Proofs.YtpibhiacmceekaaW.PrintWords Go.Proofs.YtpibhiacmceekaaW.PrintLast Go.Proofs.YtpibhiacmceekaaW.PrintMore
attribute [local go_sem] max2_int min2_int max_two min_two max_three min_three max_four min_four
set_option linter.unusedVariables false
set_option linter.unusedSimpArgs false
theorem size_drewN (w : World) (n : Nat) : (w.drewN n).heap.size = w.heap.size := rfl
theorem heap_alloc_at (w : World) (o : Obj) {g : Nat} (h : g = w.heap.size) : (w.alloc o).heap[g]? = some o := by subst h; exact blk_new w o
theorem named_in {F : Fence} {n : Nat} {P : Program} {Q : Exit → Act → World → Prop} {a : Act} {w : World} {c : Code} (h : ∀ W, W = w → c.wpIn F n P Q a W) : c.wpIn F n P Q a w := h _ rfl
def oneVar : TypeDesc → Bool
 | .struct _ | .array _ _ => false
 | _ => true
theorem run_loadVar_one {P : Program} {t : TypeId} {e : TypeDesc} {b : Addr} {x : Value} {w : World} (h1 : P.underlying t = some e) (h2 : oneVar e = true) (h3 : w.cell? b = some x) : (loadVar t b).run P w = .ok x w := by
 have hagg : (isAgg t).run P w = .ok false w := by
  unfold isAgg
  rw [Sem.run_bind, run_underlying h1 w]
  cases e <;> simp_all [oneVar]
 simp [loadVar, Sem.run_bind, hagg, go_sem, h3]
theorem wpList_named {P : Program} {ops : Array Oper} {Q : Exit → Act → World → Prop} {l : List Oper} {a : Act} {w : World} (h : ∀ Q', Aside0 (∀ a w, Q .normal a w → Q' .normal a w) → wpList P ops Q' l a w) : wpList P ops Q l a w := h Q ⟨fun _ _ h => h⟩
theorem results_v2 {P : Program} {fn : Func} {p p' : Tmp} {ty ty' : TypeId} (h : fn.results = #[.cell p ty, .cell p' ty']) {tmps : Array Value} {w : World} {a a' : Addr} {v v' : Value} (d d' : TypeDesc) (hu : P.underlying ty = some d) (hd : oneVar d = true) (hu' : P.underlying ty' = some d') (hd' : oneVar d' = true)
  (hp : tmps.getD p undef = .pointer (some a)) (hp' : tmps.getD p' undef = .pointer (some a')) (hv : w.cell? a = some v) (hv' : w.cell? a' = some v') : (results fn tmps).run P w = .ok (.tuple #[v, v']) w := by
 unfold results
 rw [h]
 simp only [List.mapM_toArray, Sem.run_bind, Sem.run_map, List.mapM_cons, List.mapM_nil, hp, hp', asAddr, Sem.run_pure, Result.andThen_ok, run_loadVar_one hu hd hv, run_loadVar_one hu' hd' hv']
 simp
theorem blk_own {W W' : World} {row : Option Nat} {B g t : Nat} {cs : Array Value} (h : W.heap[g]? = some (.cells cs t (0, 0))) (hg : W.grownBy W' row) (hr : ∀ r, row = some r → B ≤ r ∧ ∃ o : Obj, W.heap[r]? = some o ∧ o.isCells = false) : W'.heap[g]? = some (.cells cs t (0, 0)) := by
 refine blk_grown h hg fun e => ?_
 obtain ⟨_, o, ho, hc⟩ := hr g e.symm
 rw [h] at ho
 cases ho
 cases hc
theorem row_own {W W' : World} {row : Option Nat} {B : Nat} {base g e n cap : Nat} {xs : List Value} (h : W.ownsRow base e 1 (.slice (some ⟨g, 0, none⟩) n cap) n xs) (hg : W.grownBy W' row) (hr : ∀ r, row = some r → B ≤ r ∧ ∃ o : Obj, W.heap[r]? = some o ∧ o.isCells = false) : W'.ownsRow base e 1 (.slice (some ⟨g, 0, none⟩) n cap) n xs := by
 refine h.kept hg (.inr fun eq => ?_)
 obtain ⟨_, o, ho, hc⟩ := hr g eq.symm
 obtain ⟨cs, hcs⟩ := own_typed h g rfl
 rw [hcs] at ho
 cases ho
 cases hc
def ust (a1 : Int) (m : Nat) (s : List Int × Nat × Nat) (x : Int) : Option (List Int × Nat × Nat) :=
 if 0 < a1 ∧ s.2.1 < m then some (s.1.set s.2.1 (bits .or .u64 (rd s.1 (s.2.1 : Int)) (IntKind.u64.wrap (IntKind.u64.wrap x * 2 ^ s.2.2))), if (s.2.2 : Int) + 1 = a1 then (s.2.1 + 1, 0) else (s.2.1, s.2.2 + 1))
 else if x = 0 then some s else none
def urun (a1 : Int) (m : Nat) (ys : List Int) : Option (List Int × Nat × Nat) := ys.foldl (fun o x => o.bind fun s => ust a1 m s x) (some (List.replicate m 0, 0, 0))
theorem urun_snoc (a1 : Int) (m : Nat) (ys : List Int) (x : Int) : urun a1 m (ys ++ [x]) = (urun a1 m ys).bind fun s => ust a1 m s x := by simp [urun]
theorem urun_none (a1 : Int) (m : Nat) : ∀ (zs : List Int), zs.foldl (fun o x => o.bind fun s => ust a1 m s x) none = none
 | [] => rfl
 | z :: zs => urun_none a1 m zs
theorem urun_app (a1 : Int) (m : Nat) (ys zs : List Int) (h : urun a1 m ys = none) : urun a1 m (ys ++ zs) = none := by
 unfold urun at h ⊢
 rw [List.foldl_append, h, urun_none]
theorem allB_split {xs : List Int} {a b : Nat} (h : a ≤ b) : allB xs b = allB xs a ++ ((List.range (b - a)).map fun j => bitv (xs.getD ((a + j) / 8) 0) ((a + j) % 8)) := by
 obtain ⟨c, rfl⟩ : ∃ c, b = a + c := ⟨b - a, by omega⟩
 simp [allB, List.range_add, Function.comp_def]
def bits_Unpack.f (k : Nat) (l0 : List Int) (a1 a2 : Int) : Option (List Int × Int) :=
 (bits_Size.f k a1 a2).bind fun s => if s.2 = 0 then (if (l0.length : Int) < s.1 then some ([], 6) else if s.1 < (l0.length : Int) then some ([], 7) else
  if 0 ≤ a1 ∧ a1 ≤ 64 ∧ 0 ≤ a2 ∧ a2 ≤ 1048576 ∧ l0.length ≤ 1048576 then some (match urun a1 a2.toNat (allB l0 (8 * l0.length)) with | some r => (r.1, 0) | none => ([], 8)) else none) else some ([], s.2)
theorem bits_Unpack.mono : ∀ l0 a1 a2 k, LeO (bits_Unpack.f k l0 a1 a2) (bits_Unpack.f (k + 1) l0 a1 a2) := by
 intro l0 a1 a2 k
 unfold bits_Unpack.f
 exact LeO.bind (bits_Size.mono _ _ _) (fun _ => LeO.refl _)
def UnH (w : World) (a1 : Int) (m : Nat) (out : List Int) (k t : Nat) (W : World) : Prop :=
 W.heap[w.heap.size]? = some (.cells #[.int .i64 a1] 3 (0, 0)) ∧ W.heap[w.heap.size + 1]? = some (.cells #[.int .i64 m] 3 (0, 0)) ∧
  W.heap[w.heap.size + 2]? = some (.cells #[.slice none 0 0] 65 (0, 0)) ∧ W.heap[w.heap.size + 3]? = some (.cells #[.int .i64 0] 24 (0, 0)) ∧
  W.ownsRow w.heap.size 61 1 (.slice (some ⟨w.heap.size + 4, 0, none⟩) m m) m (nums .u64 out) ∧ W.heap[w.heap.size + 5]? = some (.cells #[.slice (some ⟨w.heap.size + 4, 0, none⟩) m m] 65 (0, 0)) ∧
  W.heap[w.heap.size + 6]? = some (.cells #[.int .i64 k] 3 (0, 0)) ∧ W.heap[w.heap.size + 7]? = some (.cells #[.int .i64 t] 3 (0, 0)) ∧ Below w.heap.size w W
theorem un_H {w : World} {a1 : Int} {m : Nat} {out : List Int} {k t : Nat} {W : World} (g0 : W.heap[w.heap.size]? = some (.cells #[.int .i64 a1] 3 (0, 0))) (g1 : W.heap[w.heap.size + 1]? = some (.cells #[.int .i64 m] 3 (0, 0)))
  (g2 : W.heap[w.heap.size + 2]? = some (.cells #[.slice none 0 0] 65 (0, 0))) (g3 : W.heap[w.heap.size + 3]? = some (.cells #[.int .i64 0] 24 (0, 0)))
  (g4 : W.ownsRow w.heap.size 61 1 (.slice (some ⟨w.heap.size + 4, 0, none⟩) m m) m (nums .u64 out)) (g5 : W.heap[w.heap.size + 5]? = some (.cells #[.slice (some ⟨w.heap.size + 4, 0, none⟩) m m] 65 (0, 0)))
  (g6 : W.heap[w.heap.size + 6]? = some (.cells #[.int .i64 k] 3 (0, 0))) (g7 : W.heap[w.heap.size + 7]? = some (.cells #[.int .i64 t] 3 (0, 0))) (hb : Below w.heap.size w W) : UnH w a1 m out k t W := ⟨g0, g1, g2, g3, g4, g5, g6, g7, hb⟩
theorem un_set7 {w : World} {a1 x : Int} {m : Nat} {out : List Int} {k t : Nat} {W : World} (t' : Nat) (h : UnH w a1 m out k t W) (hx : x = (t' : Int)) : UnH w a1 m out k t' (W.setCell ⟨w.heap.size + 1 + 1 + 1 + 1 + 1 + 1 + 1, 0, none⟩ (.int .i64 x)) := by
 subst hx
 obtain ⟨g0, g1, g2, g3, g4, g5, g6, g7, hb⟩ := h
 have d : ∀ {j : Nat}, j < w.heap.size + 7 → j ≠ (⟨w.heap.size + 1 + 1 + 1 + 1 + 1 + 1 + 1, 0, none⟩ : Addr).block := fun h e => by simp only [] at e; omega
 refine ⟨blk_far g0 (d (by omega)) _, blk_far g1 (d (by omega)) _, blk_far g2 (d (by omega)) _, blk_far g3 (d (by omega)) _, own_setCell g4 (fun e => ?_) _, blk_far g5 (d (by omega)) _, blk_far g6 (d (by omega)) _, ?_, hb.setCell (by simp only []; omega) _⟩
 ·injection e with e
  exact d (j := w.heap.size + 4) (by omega) e.symm
 ·exact blk_set g7 0 _
theorem un_set6 {w : World} {a1 x : Int} {m : Nat} {out : List Int} {k t : Nat} {W : World} (k' : Nat) (h : UnH w a1 m out k t W) (hx : x = (k' : Int)) : UnH w a1 m out k' t (W.setCell ⟨w.heap.size + 1 + 1 + 1 + 1 + 1 + 1, 0, none⟩ (.int .i64 x)) := by
 subst hx
 obtain ⟨g0, g1, g2, g3, g4, g5, g6, g7, hb⟩ := h
 have d : ∀ {j : Nat}, j ≠ w.heap.size + 6 → j ≠ (⟨w.heap.size + 1 + 1 + 1 + 1 + 1 + 1, 0, none⟩ : Addr).block := fun h e => by simp only [] at e; omega
 refine ⟨blk_far g0 (d (by omega)) _, blk_far g1 (d (by omega)) _, blk_far g2 (d (by omega)) _, blk_far g3 (d (by omega)) _, own_setCell g4 (fun e => ?_) _, blk_far g5 (d (by omega)) _, ?_, blk_far g7 (d (by omega)) _, hb.setCell (by simp only []; omega) _⟩
 ·injection e with e
  exact d (j := w.heap.size + 4) (by omega) e.symm
 ·exact blk_set g6 0 _
def UnI (w : World) (a1 : Int) (m : Nat) (pre : List Int) (W : World) : Prop :=
 ∃ (out : List Int) (k t : Nat), urun a1 m pre = some (out, k, t) ∧ out.length = m ∧ k ≤ m ∧ (0 < a1 → (t : Int) < a1) ∧ t ≤ 64 ∧
  UnH w a1 m out k t W
def UnX (w : World) (a1 : Int) (m : Nat) (c : Code) (pre : List Int) (W : World) : Prop :=
 c = .ret ∧ urun a1 m pre = none ∧ W.heap[w.heap.size + 2]? = some (.cells #[.slice none 0 0] 65 (0, 0)) ∧ W.heap[w.heap.size + 3]? = some (.cells #[.int .i64 8] 24 (0, 0)) ∧ Below w.heap.size w W
theorem UnI_own (w : World) (a1 : Int) (m B : Nat) (hB : w.heap.size ≤ B) : OwnFrom B (UnI w a1 m) := by
 rintro pre W W' row ⟨out, k, t, h1, h2, h3, h4, h5, g0, g1, g2, g3, g4, g5, g6, g7, hb⟩ hg hr
 exact ⟨out, k, t, h1, h2, h3, h4, h5, blk_own g0 hg hr, blk_own g1 hg hr, blk_own g2 hg hr, blk_own g3 hg hr, row_own g4 hg hr, blk_own g5 hg hr, blk_own g6 hg hr, blk_own g7 hg hr, hb.grown hg hb.size (fun r e => Nat.le_trans hB (hr r e).1)⟩
theorem UnX_own (w : World) (a1 : Int) (m B : Nat) (hB : w.heap.size ≤ B) (c : Code) : OwnFrom B (UnX w a1 m c) := by
 rintro pre W W' row ⟨h1, h2, g2, g3, hb⟩ hg hr
 exact ⟨h1, h2, blk_own g2 hg hr, blk_own g3 hg hr, hb.grown hg hb.size (fun r e => Nat.le_trans hB (hr r e).1)⟩
theorem un_left {w W : World} {a1 : Int} {m B : Nat} {ys : List Int} (g2 : W.heap[w.heap.size + 2]? = some (.cells #[.slice none 0 0] 65 (0, 0))) (g3 : W.heap[w.heap.size + 3]? = some (.cells #[.int .i64 0] 24 (0, 0))) (hb : Below w.heap.size w W) (hn : urun a1 m ys = none) :
  KeepsFrom B W ((W.setCell ⟨w.heap.size + 1 + 1, 0, none⟩ (.slice none 0 0)).setCell ⟨w.heap.size + 1 + 1 + 1, 0, none⟩ (.int .i64 8)) ∧ UnX w a1 m .ret ys ((W.setCell ⟨w.heap.size + 1 + 1, 0, none⟩ (.slice none 0 0)).setCell ⟨w.heap.size + 1 + 1 + 1, 0, none⟩ (.int .i64 8)) := by
 refine ⟨((KeepsOthers.setCell _ _ _).trans (KeepsOthers.setCell _ _ _)).from _, rfl, hn, ?_, ?_, (hb.setCell (by simp only []; omega) _).setCell (by simp only []; omega) _⟩
 ·exact blk_far (blk_set g2 0 _) (by simp only []; omega) _
 ·exact blk_set (blk_far g3 (by simp only []; omega) _) 0 _
theorem un_end {w W : World} {m D : Nat} {out : List Int} (h2 : out.length = m) (hD : w.heap.size ≤ D) (g2 : W.heap[w.heap.size + 2]? = some (.cells #[.slice none 0 0] 65 (0, 0))) (g3 : W.heap[w.heap.size + 3]? = some (.cells #[.int .i64 0] 24 (0, 0)))
  (g4 : W.ownsRow w.heap.size 61 1 (.slice (some ⟨w.heap.size + 4, 0, none⟩) m m) m (nums .u64 out)) (hb : Below w.heap.size w W) (hK : W.heap[D]? = some (.deferred (some []))) (W5 : World)
  (h5 : W5 = (W.setCell ⟨w.heap.size + 1 + 1, 0, none⟩ (.slice (some ⟨w.heap.size + 4, 0, none⟩) m m)).setCell ⟨w.heap.size + 1 + 1 + 1, 0, none⟩ (.int .i64 0)) :
  W5.heap[D]? = some (.deferred (some [])) ∧ (W5.putObj D (.deferred none)).cell? ⟨w.heap.size + 1 + 1, 0, none⟩ = some (.slice (some ⟨w.heap.size + 4, 0, none⟩) m m) ∧ (W5.putObj D (.deferred none)).cell? ⟨w.heap.size + 1 + 1 + 1, 0, none⟩ = some (.int .i64 0) ∧
   Kd.R (Kd.int .u64) 61 (W5.putObj D (.deferred none)) w.heap.size (fun _ => True) (.slice (some ⟨w.heap.size + 4, 0, none⟩) m m) out ∧ Below w.heap.size w (W5.putObj D (.deferred none)) := by
 have hK' : W5.heap[D]? = some (.deferred (some [])) := by rw [h5]; exact ((KeepsOthers.setCell _ _ _).trans (KeepsOthers.setCell _ _ _)).same D _ hK rfl
 have a2 : W5.heap[w.heap.size + 2]? = some (.cells #[.slice (some ⟨w.heap.size + 4, 0, none⟩) m m] 65 (0, 0)) := by rw [h5]; exact blk_far (blk_set g2 0 _) (by simp only []; omega) _
 have a3 : W5.heap[w.heap.size + 3]? = some (.cells #[.int .i64 0] 24 (0, 0)) := by rw [h5]; exact blk_set (blk_far g3 (by simp only []; omega) _) 0 _
 have a4 : W5.ownsRow w.heap.size 61 1 (.slice (some ⟨w.heap.size + 4, 0, none⟩) m m) m (nums .u64 out) := by
  rw [h5]
  refine own_setCell (own_setCell g4 (fun e => ?_) _) (fun e => ?_) _ <;> (injection e with e; simp only [] at e; omega)
 have a5 : Below w.heap.size w W5 := by rw [h5]; exact (hb.setCell (by simp only []; omega) _).setCell (by simp only []; omega) _
 clear h5 g2 g3 g4 hb hK
 refine ⟨hK', cell_kept (blk_cell a2 0) (grownBy_putObj' _ D (.deferred none)) (fun r e => by cases e; exact ⟨_, hK', rfl⟩), cell_kept (blk_cell a3 0) (grownBy_putObj' _ D (.deferred none)) (fun r e => by cases e; exact ⟨_, hK', rfl⟩), ?_, a5.trans (belowK_b (w := w) (Nat.le_refl _) _ D _ _ hD hK' rfl rfl)⟩
 subst h2
 exact Kd.R_of_own (enc := Value.int .u64) (h1 := fun _ => rfl) (ownsRow_putObj a4 _ hK' rfl) (fun _ _ => trivial)
theorem un_halt {w W : World} {D : Nat} (hD : w.heap.size ≤ D) (g2 : W.heap[w.heap.size + 2]? = some (.cells #[.slice none 0 0] 65 (0, 0))) (g3 : W.heap[w.heap.size + 3]? = some (.cells #[.int .i64 8] 24 (0, 0)))
  (hb : Below w.heap.size w W) (hK : W.heap[D]? = some (.deferred (some []))) :
  (W.putObj D (.deferred none)).cell? ⟨w.heap.size + 1 + 1, 0, none⟩ = some (.slice none 0 0) ∧ (W.putObj D (.deferred none)).cell? ⟨w.heap.size + 1 + 1 + 1, 0, none⟩ = some (.int .i64 8) ∧ Below w.heap.size w (W.putObj D (.deferred none)) :=
 ⟨cell_kept (blk_cell g2 0) (grownBy_putObj' _ D (.deferred none)) (fun r e => by cases e; exact ⟨_, hK, rfl⟩), cell_kept (blk_cell g3 0) (grownBy_putObj' _ D (.deferred none)) (fun r e => by cases e; exact ⟨_, hK, rfl⟩), hb.trans (belowK_b (w := w) (Nat.le_refl _) _ D _ _ hD hK rfl rfl)⟩
section
attribute [local go_sem] Oper.semAt_some
set_option maxRecDepth 100000 in
set_option maxHeartbeats 4000000 in
theorem un_main (k : Nat) (A0 : Option Addr) (c0 : Nat) (l0 : List Int) (a1 a2 s1 : Int) (w : World) (hr0 : Kd.C (Kd.int .u8) w A0 l0.length l0) (hc0 : l0.length ≤ c0) (hs : bits_Size.f k a1 a2 = some (s1, 0)) (h1 : ¬ (l0.length : Int) < s1) (h2 : ¬ s1 < (l0.length : Int)) (hw0 : 0 ≤ a1) (hw1 : a1 ≤ 64) (hn0 : 0 ≤ a2) (hn1 : a2 ≤ 1048576) (hl : l0.length ≤ 1048576) (r1 : List Int) (r2 : Int)
  (h : (match urun a1 a2.toNat (allB l0 (8 * l0.length)) with | some r => (r.1, 0) | none => ([], 8)) = (r1, r2)) (n : Nat) (hn : 4 ≤ n) :
  CallsIn Fence.wide n Try.prog 75 #[.slice A0 l0.length c0, .int .i64 a1, .int .i64 a2] w fun e w' => ∃ v0_ : Value, e = .returned (.tuple #[v0_, .int .i64 r2]) ∧ Kd.R (Kd.int .u64) 61 w' w.heap.size (fun _ => True) v0_ r1 ∧ Below w.heap.size w w' := by
 have hro : Fence.wide.round = none := rfl
 have HR0 := Aside0.mk hr0
 have Hs := Aside0.mk hs
 have h1n : 1 ≤ n := by omega
 have hn2 := Aside0.mk (show 1 ≤ n - 1 by omega)
 clear hr0 hs
 have h1b := decide_eq_false h1
 have h2b := decide_eq_false h2
 clear h1 h2
 obtain ⟨m, rfl⟩ := Int.eq_ofNat_of_zero_le hn0
 rw [show ((m : Int)).toNat = m from rfl] at h
 have H := Aside0.mk h
 clear h
 have hmk := print_make_int (P := Try.prog) 65 61 (.int .u64 0) 8 (by kernel_rfl) (by kernel_rfl) rfl (by decide) (m : Int) hn0 (by omega)
 rw [show ((m : Int)).toNat = m from rfl] at hmk
 refine callsIn_of_wp_marks Try.func75 rfl trivial ?_ hro
 simp only [Try.ntmps75, List.size_toArray, List.length_cons, List.length_nil, Nat.reduceAdd, Nat.reduceSub, Array.replicate_succ, Array.replicate_zero, List.push_toArray, List.append_toArray, List.nil_append, List.cons_append]
 gi_wp2_with (refine ⟨trivial, ?_⟩; first | (gi_at_call 55; refine (callsIn_wide.2 (bits_Size.calls k a1 m s1 0 _ Hs.out)).mono ?_; rintro e w' ⟨rfl, ⟨nd, rfl⟩⟩) | (gi_at_call 77; refine (callsIn_wide.2 (bits_in A0 c0 l0 _)).mono ?_; rintro e w' ⟨rfl, rfl⟩))
 clear hmk
 refine named_in fun W0 hW0 => ?_
 have f0 : W0.heap[w.heap.size]? = some (.cells #[.int .i64 a1] 3 (0,0)) := by rw [hW0]; repeat (first | (refine heap_alloc_at _ _ ?_; ((try simp only [World.size_alloc, World.size_setCell, size_drewN]) <;> omega)) | (refine blk_alloc ?_ _) | (refine blk_drewN ?_ _))
 have f1 : W0.heap[w.heap.size + 1]? = some (.cells #[.int .i64 m] 3 (0,0)) := by rw [hW0]; repeat (first | (refine heap_alloc_at _ _ ?_; ((try simp only [World.size_alloc, World.size_setCell, size_drewN]) <;> omega)) | (refine blk_alloc ?_ _) | (refine blk_drewN ?_ _))
 have f2 : W0.heap[w.heap.size + 2]? = some (.cells #[.slice none 0 0] 65 (0,0)) := by rw [hW0]; repeat (first | (refine heap_alloc_at _ _ ?_; ((try simp only [World.size_alloc, World.size_setCell, size_drewN]) <;> omega)) | (refine blk_alloc ?_ _) | (refine blk_drewN ?_ _))
 have f3 : W0.heap[w.heap.size + 3]? = some (.cells #[.int .i64 0] 24 (0,0)) := by rw [hW0]; repeat (first | (refine heap_alloc_at _ _ ?_; ((try simp only [World.size_alloc, World.size_setCell, size_drewN]) <;> omega)) | (refine blk_alloc ?_ _) | (refine blk_drewN ?_ _))
 have f4 : W0.heap[w.heap.size + 4]? = some (.cells (madeCells #[Value.int IntKind.u64 0] m) 61 (0,0)) := by rw [hW0]; repeat (first | (refine heap_alloc_at _ _ ?_; ((try simp only [World.size_alloc, World.size_setCell, size_drewN]) <;> omega)) | (refine blk_alloc ?_ _) | (refine blk_drewN ?_ _))
 have f5 : W0.heap[w.heap.size + 5]? = some (.cells #[.slice (some ⟨w.heap.size + 4, 0, none⟩) m m] 65 (0,0)) := by rw [hW0]; repeat (first | (refine heap_alloc_at _ _ ?_; ((try simp only [World.size_alloc, World.size_setCell, size_drewN]) <;> omega)) | (refine blk_alloc ?_ _) | (refine blk_drewN ?_ _))
 have f6 : W0.heap[w.heap.size + 6]? = some (.cells #[.int .i64 0] 3 (0,0)) := by rw [hW0]; repeat (first | (refine heap_alloc_at _ _ ?_; ((try simp only [World.size_alloc, World.size_setCell, size_drewN]) <;> omega)) | (refine blk_alloc ?_ _) | (refine blk_drewN ?_ _))
 have f7 : W0.heap[w.heap.size + 7]? = some (.cells #[.int .i64 0] 3 (0,0)) := by rw [hW0]; repeat (first | (refine heap_alloc_at _ _ ?_; ((try simp only [World.size_alloc, World.size_setCell, size_drewN]) <;> omega)) | (refine blk_alloc ?_ _) | (refine blk_drewN ?_ _))
 have f8 : W0.heap[w.heap.size + 8]? = some (.cells #[.slice A0 l0.length c0] 37 (0,0)) := by rw [hW0]; repeat (first | (refine heap_alloc_at _ _ ?_; ((try simp only [World.size_alloc, World.size_setCell, size_drewN]) <;> omega)) | (refine blk_alloc ?_ _) | (refine blk_drewN ?_ _))
 have hb : Below w.heap.size w W0 := by rw [hW0]; repeat (first | exact Below.refl _ _ | (refine below_alloc ?_ _) | (refine pw_below_drewN ?_ _))
 have hsz : W0.heap.size = w.heap.size + 9 := by rw [hW0]; simp only [World.size_alloc, size_drewN]
 have frow : W0.ownsRow w.heap.size 61 1 (.slice (some ⟨w.heap.size + 4, 0, none⟩) m m) m (nums .u64 (List.replicate m 0)) := by
  have ho := own_made w w.heap.size 61 .u64 m (Nat.le_refl _) (by omega)
  refine ⟨ho.1, .inr ⟨w.heap.size + 4, m, _, rfl, by omega, f4, Nat.le_refl _, by simp [maxLen]; omega, by simp [size_madeCells], ?_⟩⟩
  rw [Nat.mul_one, List.take_of_length_le (by simp [size_madeCells])]
  apply List.ext_getElem
  ·simp [nums, madeCells]
  ·intro i h1 h2
   simp [nums, madeCells, Nat.mod_one]
 have FI := Aside0.mk (show UnI w a1 m [] W0 from ⟨List.replicate m 0, 0, 0, rfl, by simp, Nat.zero_le _, fun h => h, by omega, f0, f1, f2, f3, frow, f5, f6, f7, hb⟩)
 have HB := Aside0.mk hb
 have F8 := Aside0.mk (show W0.cell? ⟨w.heap.size + 8, 0, none⟩ = some (.slice A0 l0.length c0) from blk_cell f8 0)
 clear hW0 f0 f1 f2 f3 f4 f5 f6 f7 f8 hb frow
 refine wpIn_rangeFunc_ownG hro h1n (gf := 78) (lb := #[.pointer (some ⟨w.heap.size + 8, 0, none⟩)]) rfl trivial (enters_of Try.func78 (by kernel_rfl) rfl)
  (bits_stops Fence.wide (n - 1) trivial hro hn2.out (w.heap.size + 8) w.heap.size c0 A0 l0 w W0 HR0.out (by omega) rfl HB.out (by omega) F8.out) belowK_t (belowK_b (by omega)) (Below.refl _ _) (fun _ => rfl)
  (UnI w a1 m) (UnX w a1 m) (UnI_own w a1 m _ (by omega)) (UnX_own w a1 m _ (by omega)) FI.out ?a1 ?assign ?body ?done ?stop
 case assign =>
  intro l x W K hK
  gi_wp2
  exact hK
 case body =>
  rintro l pre x W ⟨out, k, t, h1, h2, h3, h4, h5, g0, g1, g2, g3, g4, g5, g6, g7, hb⟩ hlen
  clear F8 FI HB H HR0 Hs
  have c0 := blk_cell g0 0
  have c1 := blk_cell g1 0
  have c6 := blk_cell g6 0
  have c7 := blk_cell g7 0
  have F6 := blk_frozen g6 0
  have F7 := blk_frozen g7 0
  have hsn := urun_snoc a1 m pre x
  rw [h1, Option.bind_some] at hsn
  simp only [ust] at hsn
  by_cases hp : 0 < a1
  ·have hpb := decide_eq_true hp
   by_cases hk : k < m
   ·rw [if_pos ⟨hp, hk⟩] at hsn
    have hkb := decide_eq_true (show (k : Int) < (m : Int) by omega)
    gi_wp2
    rename_i K1 hK1
    have cr := (own_at g4 (k : Int) (by omega) (by omega)).1
    have fr := (own_at g4 (k : Int) (by omega) (by omega)).2
    rw [show ((k : Int)).toNat = k from rfl] at cr fr
    have c5 := blk_cell g5 0
    obtain ⟨y, hy⟩ : ∃ y, y = rd out (k : Int) := ⟨_, rfl⟩
    rw [← hy] at cr hsn
    clear hy
    refine region_tail_in 10 (by kernel_rfl) (by kernel_rfl) (by kernel_rfl) (fun w3 hw3 => ?_)
    simp only [List.take_succ_cons, List.take_zero, List.drop_succ_cons, List.drop_zero]
    have d5 : w3.cell? ⟨w.heap.size + 1 + 1 + 1 + 1 + 1, 0, none⟩ = some (.slice (some ⟨w.heap.size + 4, 0, none⟩) m m) := by rw [hw3]; exact c5
    have d6 : w3.cell? ⟨w.heap.size + 1 + 1 + 1 + 1 + 1 + 1, 0, none⟩ = some (.int .i64 k) := by rw [hw3]; exact c6
    have d7 : w3.cell? ⟨w.heap.size + 1 + 1 + 1 + 1 + 1 + 1 + 1, 0, none⟩ = some (.int .i64 t) := by rw [hw3]; exact c7
    have dr : w3.cell? ⟨w.heap.size + 4, k, none⟩ = some (.int .u64 y) := by rw [hw3]; exact cr
    have dfr : w3.frozen? ⟨w.heap.size + 4, k, none⟩ = false := by rw [hw3]; exact fr
    have e1 : 0 ≤ (k : Int) := by omega
    have e2 : (k : Int) < m := by omega
    have e3 : ((k : Int)).toNat = k := rfl
    have e4 : ((t : Int)).toNat = t := rfl
    have e5 : 0 ≤ (t : Int) := by omega
    repeat still_step
    refine wpStill_nil ?_
    clear e1 e2 e3 e4 e5 d5 d6 d7 dr
    refine wpList_named fun Q' hQ' => ?_
    go_wp2
    refine hQ'.out _ _ ⟨trivial, ?_⟩
    clear hQ' Q'
    obtain ⟨z, hz⟩ : ∃ z, z = bits .or .u64 y (IntKind.u64.wrap (IntKind.u64.wrap x * 2 ^ t)) := ⟨_, rfl⟩
    rw [← hz] at hsn ⊢
    simp only [Exit.then]
    refine hK1 _ _ ?_
    refine named_in fun W4 hW4 => ?_
    clear dfr c0 c1 c5 c6 c7 F6 F7 fr cr
    have go := own_store (k := .u64) g4 (k : Int) z
    rw [show ((k : Int)).toNat = k from rfl] at go
    have q : ∀ {j : Nat} {t : Nat} {cs : Array Value}, W.heap[j]? = some (.cells cs t (0, 0)) → j ≠ w.heap.size + 4 → W4.heap[j]? = some (.cells cs t (0, 0)) := fun {j t cs} hj hne => by rw [hW4]; exact blk_drew (blk_far hj (by simpa using hne) _)
    have hb4 : Below w.heap.size w W4 := by rw [hW4]; exact below_drew1 (hb.setCell (p := ⟨w.heap.size + 4, k, none⟩) (by simp) _)
    have hb4' : Below w.heap.size W W4 := by rw [hW4]; exact below_drew1 ((Below.refl _ W).setCell (p := ⟨w.heap.size + 4, k, none⟩) (by simp) _)
    have hk4 : KeepsOthers W W4 := by rw [hW4]; exact (KeepsOthers.setCell _ _ _).trans (KeepsOthers.drew _)
    have g4' : W4.ownsRow w.heap.size 61 1 (.slice (some ⟨w.heap.size + 4, 0, none⟩) m m) m (nums .u64 (out.set k z)) := by rw [hW4]; exact go.1.drew
    replace g0 := q g0 (by omega)
    replace g1 := q g1 (by omega)
    replace g2 := q g2 (by omega)
    replace g3 := q g3 (by omega)
    replace g5 := q g5 (by omega)
    replace g6 := q g6 (by omega)
    replace g7 := q g7 (by omega)
    clear q hW4 hw3 g4 go hz
    have c0 := blk_cell g0 0
    have c6 := blk_cell g6 0
    have c7 := blk_cell g7 0
    have F6 := blk_frozen g6 0
    have F7 := blk_frozen g7 0
    have ht := h4 hp
    clear h1 h4
    by_cases he : (t : Int) + 1 = a1
    ·rw [if_pos he] at hsn
     have heb : ((t : Int) + 1 == a1) = true := by simpa using he
     gi_wp2
     have HU := un_set7 (x := 0) 0 (un_set6 (x := (k : Int) + 1) (k + 1) (un_set7 (x := a1) (t + 1) (un_H g0 g1 g2 g3 g4' g5 g6 g7 hb4) (by omega)) (by omega)) (by omega)
     refine ⟨?_, ?_, _, _, _, hsn, by simp [h2], by omega, fun _ => by simpa using hp, by omega, HU⟩
     ·exact (hk4.trans ((KeepsOthers.setCell _ _ _).trans ((KeepsOthers.setCell _ _ _).trans (KeepsOthers.setCell _ _ _)))).from _
     ·exact hb4'.trans ((((Below.refl _ _).setCell (by simp; omega) _).setCell (by simp; omega) _).setCell (by simp; omega) _)
    ·rw [if_neg he] at hsn
     have heb : ((t : Int) + 1 == a1) = false := by simpa using he
     gi_wp2
     have HU := un_set7 (x := (t : Int) + 1) (t + 1) (un_H g0 g1 g2 g3 g4' g5 g6 g7 hb4) (by omega)
     refine ⟨?_, ?_, _, _, _, hsn, by simp [h2], by omega, fun _ => by omega, by omega, HU⟩
     ·exact (hk4.trans (KeepsOthers.setCell _ _ _)).from _
     ·exact hb4'.trans ((Below.refl _ _).setCell (by simp; omega) _)
   ·have hkb := decide_eq_false (show ¬ (k : Int) < (m : Int) by omega)
    rw [if_neg (fun h => hk h.2)] at hsn
    by_cases hx : x = 0
    ·rw [if_pos hx] at hsn
     have hxb : (x != 0) = false := by simpa using hx
     clear hx
     gi_wp2
     exact ⟨(KeepsOthers.refl W).from _, Below.refl _ W, _, _, _, hsn, h2, h3, h4, h5, un_H g0 g1 g2 g3 g4 g5 g6 g7 hb⟩
    ·rw [if_neg hx] at hsn
     have hxb : (x != 0) = true := by simpa using hx
     clear hx
     have F2 := blk_frozen g2 0
     have F3 := blk_frozen g3 0
     have c2 := blk_cell g2 0
     have c3 := blk_cell g3 0
     gi_wp2
     exact un_left g2 g3 hb hsn
  ·have hpb := decide_eq_false hp
   rw [if_neg (fun h => hp h.1)] at hsn
   by_cases hx : x = 0
   ·rw [if_pos hx] at hsn
    have hxb : (x != 0) = false := by simpa using hx
    clear hx
    gi_wp2
    exact ⟨(KeepsOthers.refl W).from _, Below.refl _ W, _, _, _, hsn, h2, h3, h4, h5, un_H g0 g1 g2 g3 g4 g5 g6 g7 hb⟩
   ·rw [if_neg hx] at hsn
    have hxb : (x != 0) = true := by simpa using hx
    clear hx
    have F2 := blk_frozen g2 0
    have F3 := blk_frozen g3 0
    have c2 := blk_cell g2 0
    have c3 := blk_cell g3 0
    gi_wp2
    exact un_left g2 g3 hb hsn
 case done =>
  rintro D ys W hD rfl ⟨out, k, t, h1, h2, h3, h4, h5, g0, g1, g2, g3, g4, g5, g6, g7, hb⟩ hK
  rw [h1] at H
  obtain ⟨rfl, rfl⟩ : out = r1 ∧ 0 = r2 := by simpa using H.out
  clear H h1 FI F8
  have c5 := blk_cell g5 0
  have F2 := blk_frozen g2 0
  have F3 := blk_frozen g3 0
  have c2 := blk_cell g2 0
  have c3 := blk_cell g3 0
  gi_wp2
  obtain ⟨hK', q2, q3, q4, q5⟩ := un_end h2 (by omega) g2 g3 g4 hb hK _ rfl
  refine ⟨by simp, .inl ⟨_, _, rfl, run_takeDeferred hK', ?_⟩⟩
  exact ⟨_, results_v2 rfl (.slice 61) (.int .i64) (by kernel_rfl) rfl (by kernel_rfl) rfl rfl rfl q2 q3, _, rfl, q4, q5⟩
 case stop =>
  rintro D c pre W hD ⟨mm, hmm, rfl⟩ ⟨rfl, h2, g2, g3, hb⟩ hK
  obtain ⟨q2, q3, q5⟩ := un_halt (by omega) g2 g3 hb hK
  rw [allB_split hmm, urun_app _ _ _ _ h2] at H
  obtain ⟨rfl, rfl⟩ : [] = r1 ∧ 8 = r2 := by simpa using H.out
  clear H FI F8
  gi_wp2
  refine ⟨by simp, .inl ⟨_, _, rfl, run_takeDeferred hK, ?_⟩⟩
  exact ⟨_, results_v2 rfl (.slice 61) (.int .i64) (by kernel_rfl) rfl (by kernel_rfl) rfl rfl rfl q2 q3, _, rfl, Kd.R_nil _ _ _ _ _, q5⟩
end
theorem un_badw (w : World) (a1 a2 r : Int) (nd : Nat) (W5 : World) (h5 : W5 = ((((((w.alloc (.cells #[.int .i64 a1] 3)).alloc (.cells #[.int .i64 a2] 3)).alloc (.cells #[.slice none 0 0] 65)).alloc (.cells #[.int .i64 0] 24)).drewN nd).setCell ⟨w.heap.size + 1 + 1, 0, none⟩ (.slice none 0 0)).setCell ⟨w.heap.size + 1 + 1 + 1, 0, none⟩ (.int .i64 r)) :
  W5.cell? ⟨w.heap.size + 1 + 1, 0, none⟩ = some (.slice none 0 0) ∧ W5.cell? ⟨w.heap.size + 1 + 1 + 1, 0, none⟩ = some (.int .i64 r) ∧ Below w.heap.size w W5 := by
 obtain ⟨W, hW⟩ : ∃ W, W = ((((w.alloc (.cells #[.int .i64 a1] 3)).alloc (.cells #[.int .i64 a2] 3)).alloc (.cells #[.slice none 0 0] 65)).alloc (.cells #[.int .i64 0] 24)).drewN nd := ⟨_, rfl⟩
 rw [← hW] at h5
 have g2 : W.heap[w.heap.size + 2]? = some (.cells #[.slice none 0 0] 65 (0,0)) := by rw [hW]; repeat (first | (refine heap_alloc_at _ _ ?_; ((try simp only [World.size_alloc, World.size_setCell, size_drewN]) <;> omega)) | (refine blk_alloc ?_ _) | (refine blk_drewN ?_ _))
 have g3 : W.heap[w.heap.size + 3]? = some (.cells #[.int .i64 0] 24 (0,0)) := by rw [hW]; repeat (first | (refine heap_alloc_at _ _ ?_; ((try simp only [World.size_alloc, World.size_setCell, size_drewN]) <;> omega)) | (refine blk_alloc ?_ _) | (refine blk_drewN ?_ _))
 have hb : Below w.heap.size w W := by rw [hW]; repeat (first | exact Below.refl _ _ | (refine below_alloc ?_ _) | (refine pw_below_drewN ?_ _))
 have a2 : W5.heap[w.heap.size + 2]? = some (.cells #[.slice none 0 0] 65 (0, 0)) := by rw [h5]; exact blk_far (blk_set g2 0 _) (by simp only []; omega) _
 have a3 : W5.heap[w.heap.size + 3]? = some (.cells #[.int .i64 r] 24 (0, 0)) := by rw [h5]; exact blk_set (blk_far g3 (by simp only []; omega) _) 0 _
 exact ⟨blk_cell a2 0, blk_cell a3 0, by rw [h5]; exact (hb.setCell (by simp only []; omega) _).setCell (by simp only []; omega) _⟩
set_option maxHeartbeats 1000000 in
theorem un_bad (k : Nat) (A0 : Option Addr) (c0 : Nat) (l0 : List Int) (a1 a2 s1 s2 : Int) (w : World) (hs : bits_Size.f k a1 a2 = some (s1, s2)) (r2 : Int) (hl : l0.length ≤ 9223372036854775807)
  (h : (s2 ≠ 0 ∧ r2 = s2) ∨ (s2 = 0 ∧ (l0.length : Int) < s1 ∧ r2 = 6) ∨ (s2 = 0 ∧ ¬ (l0.length : Int) < s1 ∧ s1 < (l0.length : Int) ∧ r2 = 7)) :
  Calls Try.prog 75 #[.slice A0 l0.length c0, .int .i64 a1, .int .i64 a2] w fun e w' => e = .returned (.tuple #[.slice none 0 0, .int .i64 r2]) ∧ Below w.heap.size w w' := by
 have Hs := Aside0.mk hs
 clear hs
 rcases h with ⟨h1, rfl⟩ | ⟨rfl, h2, rfl⟩ | ⟨rfl, h2, h3, rfl⟩
 ·have hb : (r2 != 0) = true := by simpa using h1
  clear h1
  go_enter Try.func75, Try.ntmps75
  go_wp2_with (go_at_call 55; refine (bits_Size.calls k a1 a2 s1 r2 _ Hs.out).mono ?_; rintro e w' ⟨rfl, ⟨nd, rfl⟩⟩)
  obtain ⟨q2, q3, q5⟩ := un_badw w a1 a2 _ nd _ rfl
  refine bodyPost_ret (results_v2 rfl (.slice 61) (.int .i64) (by kernel_rfl) rfl (by kernel_rfl) rfl rfl rfl q2 q3) rfl ?_
  exact ⟨rfl, q5⟩
 ·have h2b := decide_eq_true h2
  go_enter Try.func75, Try.ntmps75
  go_wp2_with (go_at_call 55; refine (bits_Size.calls k a1 a2 s1 0 _ Hs.out).mono ?_; rintro e w' ⟨rfl, ⟨nd, rfl⟩⟩)
  obtain ⟨q2, q3, q5⟩ := un_badw w a1 a2 _ nd _ rfl
  refine bodyPost_ret (results_v2 rfl (.slice 61) (.int .i64) (by kernel_rfl) rfl (by kernel_rfl) rfl rfl rfl q2 q3) rfl ?_
  exact ⟨rfl, q5⟩
 ·have h2b := decide_eq_false h2
  have h3b := decide_eq_true h3
  go_enter Try.func75, Try.ntmps75
  go_wp2_with (go_at_call 55; refine (bits_Size.calls k a1 a2 s1 0 _ Hs.out).mono ?_; rintro e w' ⟨rfl, ⟨nd, rfl⟩⟩)
  obtain ⟨q2, q3, q5⟩ := un_badw w a1 a2 _ nd _ rfl
  refine bodyPost_ret (results_v2 rfl (.slice 61) (.int .i64) (by kernel_rfl) rfl (by kernel_rfl) rfl rfl rfl q2 q3) rfl ?_
  exact ⟨rfl, q5⟩
theorem bits_Unpack.calls (k : Nat) (A0 : Option Addr) (c0 : Nat) (l0 : List Int) (a1 a2 : Int) (r1 : List Int) (r2 : Int) (w : World) (hr0 : Kd.C (Kd.int .u8) w A0 l0.length l0) (hc0 : l0.length ≤ c0) (h : bits_Unpack.f k l0 a1 a2 = some (r1, r2)) :
  Calls Try.prog 75 #[.slice A0 l0.length c0, .int .i64 a1, .int .i64 a2] w fun e w' => ∃ v0_ : Value, e = .returned (.tuple #[v0_, .int .i64 r2]) ∧ Kd.R (Kd.int .u64) 61 w' w.heap.size (fun _ => True) v0_ r1 ∧ Below w.heap.size w w' := by
 unfold bits_Unpack.f at h
 obtain ⟨⟨s1, s2⟩, hs, h⟩ := Option.bind_eq_some_iff.1 h
 have hl : l0.length ≤ 9223372036854775807 := hr0.2.1
 have bad : ∀ r, ((s2 ≠ 0 ∧ r = s2) ∨ (s2 = 0 ∧ (l0.length : Int) < s1 ∧ r = 6) ∨ (s2 = 0 ∧ ¬ (l0.length : Int) < s1 ∧ s1 < (l0.length : Int) ∧ r = 7)) → ([], r) = (r1, r2) →
   Calls Try.prog 75 #[.slice A0 l0.length c0, .int .i64 a1, .int .i64 a2] w fun e w' => ∃ v0_ : Value, e = .returned (.tuple #[v0_, .int .i64 r2]) ∧ Kd.R (Kd.int .u64) 61 w' w.heap.size (fun _ => True) v0_ r1 ∧ Below w.heap.size w w' := by
  intro r hr e
  obtain ⟨rfl, rfl⟩ : [] = r1 ∧ r = r2 := by simpa using e
  exact (un_bad k A0 c0 l0 a1 a2 s1 s2 w hs r hl hr).mono fun e w' ⟨he, hb⟩ => ⟨_, he, Kd.R_nil _ _ _ _ _, hb⟩
 by_cases c : s2 = 0
 ·rw [if_pos c] at h
  by_cases d : (l0.length : Int) < s1
  ·rw [if_pos d] at h
   exact bad 6 (.inr (.inl ⟨c, d, rfl⟩)) (Option.some.inj h)
  ·rw [if_neg d] at h
   by_cases e : s1 < (l0.length : Int)
   ·rw [if_pos e] at h
    exact bad 7 (.inr (.inr ⟨c, d, e, rfl⟩)) (Option.some.inj h)
   ·rw [if_neg e] at h
    by_cases g : 0 ≤ a1 ∧ a1 ≤ 64 ∧ 0 ≤ a2 ∧ a2 ≤ 1048576 ∧ l0.length ≤ 1048576
    ·rw [if_pos g] at h
     subst c
     exact (callsIn_wide (n := 4)).1 (un_main k A0 c0 l0 a1 a2 s1 w hr0 hc0 hs d e g.1 g.2.1 g.2.2.1 g.2.2.2.1 g.2.2.2.2 r1 r2 (Option.some.inj h) 4 (Nat.le_refl _))
    ·rw [if_neg g] at h
     exact absurd h (by simp)
 ·rw [if_neg c] at h
  exact bad s2 (.inl ⟨c, rfl⟩) (Option.some.inj h)
end Go.Proofs.Ytpibhiacmceekaa.X
end

section
namespace Go.Proofs.Ytpibhiacmceekaa.X
open Go.RowKit Go.Proofs.YtpibhiacmceekaaW.PrintWords Go.Proofs.YtpibhiacmceekaaW.PrintLast Go.Proofs.YtpibhiacmceekaaW.PrintMore
attribute [local go_sem] max2_int min2_int max_two min_two max_three min_three max_four min_four
set_option linter.unusedVariables false
set_option linter.unusedSimpArgs false
set_option maxHeartbeats 400000 in
theorem rv_next_no (w : World) (g0 g1 : Nat) (A : Option Addr) (n c : Nat) (a : Int) (hb : w.cell? ⟨g0, 0, none⟩ = some (.slice A n c)) (ha : w.cell? ⟨g1, 0, none⟩ = some (.int .i64 a)) (h : decide (a ≥ (n : Int)) = true) :
  Calls Try.prog 74 #[.pointer (some ⟨g1, 0, none⟩), .pointer (some ⟨g0, 0, none⟩)] w fun e w' => e = .returned (.tuple #[.int .u8 0, .bool false]) ∧ w' = w := by
 go_enter Try.func74, Try.ntmps74
 go_wp2
 go_ret2
 exact ⟨rfl, rfl⟩
set_option maxHeartbeats 400000 in
theorem rv_next_yes (w : World) (g0 g1 : Nat) (A : Option Addr) (n c : Nat) (xs : List Int) (a : Int) (hb : w.cell? ⟨g0, 0, none⟩ = some (.slice A n c)) (ha : w.cell? ⟨g1, 0, none⟩ = some (.int .i64 a)) (hf : w.frozen? ⟨g1, 0, none⟩ = false)
  (h0 : 0 ≤ a) (h1 : a < (n : Int)) (hn : n ≤ 9223372036854775807) (hne : g0 ≠ g1) (hC : Kd.C (Kd.int .u8) (w.setCell ⟨g1, 0, none⟩ (.int .i64 (a + 1))) A n xs) :
  Calls Try.prog 74 #[.pointer (some ⟨g1, 0, none⟩), .pointer (some ⟨g0, 0, none⟩)] w fun e w' => e = .returned (.tuple #[.int .u8 (rd xs a), .bool true]) ∧ w' = w.setCell ⟨g1, 0, none⟩ (.int .i64 (a + 1)) := by
 have hb' : (w.setCell ⟨g1, 0, none⟩ (.int .i64 (a + 1))).cell? ⟨g0, 0, none⟩ = some (.slice A n c) := by
  rw [World.cell?_setCell_other _ _ _ _ (by simp)]; exact hb
 obtain ⟨ad, rfl, hx⟩ := c_at hC a h0 h1
 clear hC
 go_enter Try.func74, Try.ntmps74
 go_wp2
 go_ret2
 exact ⟨rfl, rfl⟩
def rvn (n x s : Int) : Int := bits .or .u64 n (IntKind.u64.wrap (IntKind.u64.wrap (bits .and .u8 x 127) * 2 ^ s.toNat))
def rvl : Nat → List Int → Int → Int → Int → Int → Option (Int × Int × Int)
 | 0, _, _, _, _, _ => none
 | k + 1, b, fr, at_, s, n =>
  if at_ < b.length then
   (if s = 63 ∧ 1 < rd b at_ then some (0, 0, 110)
   else if rd b at_ < 128 then (if rd b at_ = 0 ∧ 1 < at_ + 1 - fr then some (0, 0, 8) else some (rvn n (rd b at_) s, at_ + 1, 0))
   else rvl k b fr (at_ + 1) (s + 7) (rvn n (rd b at_) s))
  else some (0, 0, 6)
set_option maxHeartbeats 1000000 in
theorem rv_walk (k : Nat) (A0 : Option Addr) (c0 : Nat) (l0 : List Int) (a1 : Int) (r1 r2 r3 : Int) (w : World) (hr0 : Kd.C (Kd.int .u8) w A0 l0.length l0) (hc0 : l0.length ≤ c0) (h0 : 0 ≤ a1) (h1 : a1 ≤ l0.length) (h : rvl k l0 a1 a1 0 0 = some (r1, r2, r3)) :
  Calls Try.prog 66 #[.slice A0 l0.length c0, .int .i64 a1] w fun e w' => e = .returned (.tuple #[.int .u64 r1, .int .i64 r2, .int .i64 r3]) ∧ Below w.heap.size w w' := by
 have hl : l0.length ≤ 9223372036854775807 := hr0.2.1
 have H' := Aside0.mk h
 clear h
 go_enter Try.func66, Try.ntmps66
 go_wp2
 go_step3
 go_wp2
 go_step3
 go_wp2
 have HB0 : Below w.heap.size w ((w.alloc (Obj.cells #[Value.slice A0 l0.length c0] 37)).alloc (Obj.cells #[Value.int IntKind.i64 a1] 3)) := below_alloc (below_alloc (Below.refl _ _) _) _
 go_loopg [9, 10, 11] k (fun kq v9 v10 v11 w' => ∃ (p s n last : Int), v9 = .int .u64 n ∧ v10 = .int .u8 last ∧ v11 = .int .i64 s ∧ Aside0 (rvl kq l0 a1 p s n = some (r1, r2, r3)) ∧ Aside0 (kq ≤ k) ∧ 0 ≤ s ∧ s ≤ 63 ∧ Aside0 (s % 7 = 0) ∧ a1 ≤ p ∧ p ≤ l0.length ∧
  w'.heap[w.heap.size]? = some (.cells #[.slice A0 l0.length c0] 37 (0, 0)) ∧ w'.heap[w.heap.size + 1]? = some (.cells #[.int .i64 p] 3 (0, 0)) ∧ Aside0 (Below w.heap.size w w'))
 case atStart => exact ⟨a1, 0, 0, 0, rfl, rfl, rfl, H', ⟨Nat.le_refl _⟩, by omega, by omega, ⟨rfl⟩, Int.le_refl _, h1, blk_alloc (blk_new _ _) _, (by have := blk_new (w.alloc (Obj.cells #[Value.slice A0 l0.length c0] 37)) (Obj.cells #[Value.int IntKind.i64 a1] 3); rwa [World.size_alloc] at this), ⟨HB0⟩⟩
 case round =>
  clear H' HB0
  obtain ⟨p, s, n, last, rfl, rfl, rfl, HA, HK, hs0, hs1, hs7, hp, hpl, HG0, HG1, HB⟩ := hrel
  cases gk with
  | zero => exact absurd HA.out (by simp [rvl])
  | succ k1 =>
   have H := HA.out
   clear HA
   simp only [rvl] at H
   have hb : wr.cell? ⟨w.heap.size, 0, none⟩ = some (.slice A0 l0.length c0) := blk_cell HG0 0
   have ha : wr.cell? ⟨w.heap.size + 1, 0, none⟩ = some (.int .i64 p) := blk_cell HG1 0
   by_cases hlt : p < l0.length
   ·rw [if_pos hlt] at H
    have hf : wr.frozen? ⟨w.heap.size + 1, 0, none⟩ = false := blk_frozen HG1 0
    have HB1 : Below w.heap.size w (wr.setCell ⟨w.heap.size + 1, 0, none⟩ (.int .i64 (p + 1))) := HB.out.setCell (p := ⟨w.heap.size + 1, 0, none⟩) (by simp) _
    have HB1 := Aside0.mk HB1
    have HG0' : (wr.setCell ⟨w.heap.size + 1, 0, none⟩ (.int .i64 (p + 1))).heap[w.heap.size]? = some (.cells #[.slice A0 l0.length c0] 37 (0, 0)) := blk_far HG0 (by simp) _
    have HG1' : (wr.setCell ⟨w.heap.size + 1, 0, none⟩ (.int .i64 (p + 1))).heap[w.heap.size + 1]? = some (.cells #[.int .i64 (p + 1)] 3 (0, 0)) := blk_set HG1 0 _
    have HG0' := Aside0.mk HG0'
    have HG1' := Aside0.mk HG1'
    have HN := rv_next_yes wr w.heap.size (w.heap.size + 1) A0 l0.length c0 l0 p hb ha hf (by omega) hlt hl (by omega) (Kd.C_below hr0 HB1.out)
    clear hb ha hf HG0 HG1 HB
    obtain ⟨x, hx⟩ : ∃ x, x = rd l0 p := ⟨_, rfl⟩
    rw [← hx] at H HN
    have H' := Aside0.mk H
    clear H hx
    go_wp2_with fail
    refine HN.mono ?_
    clear HN
    rintro e W1 ⟨rfl, hW1⟩
    rw [← hW1] at HB1 HG0' HG1'
    clear hW1
    have ha : W1.cell? ⟨w.heap.size + 1, 0, none⟩ = some (.int .i64 (p + 1)) := blk_cell HG1'.out 0
    by_cases h9 : s = 63
    ·have h9b : (s == 63) = true := beq_iff_eq.2 h9
     have h9 := Aside0.mk h9
     by_cases h1x : 1 < x
     ·have h1b := decide_eq_true h1x
      have H := H'.out
      rw [if_pos ⟨h9.out, h1x⟩] at H
      obtain ⟨rfl, rfl, rfl⟩ : 0 = r1 ∧ 0 = r2 ∧ 110 = r3 := by simpa using H
      clear H H'
      go_wp2
      rw [Exit.noGoto_ret]
      go_ret3
      exact ⟨rfl, HB1.out⟩
     ·have h1b := decide_eq_false h1x
      have hv := Aside0.mk (show rvn n x s = bits .or .u64 n (IntKind.u64.wrap (IntKind.u64.wrap (bits .and .u8 x 127) * 9223372036854775808)) by rw [h9.out]; rfl)
      by_cases h128 : x < 128
      ·have h128b := decide_eq_true h128
       by_cases hx0 : x = 0
       ·have hx0b : (x == 0) = true := beq_iff_eq.2 hx0
        by_cases hfr : 1 < p + 1 - a1
        ·have H := H'.out
         rw [if_neg (fun h => h1x h.2), if_pos h128, if_pos ⟨hx0, hfr⟩] at H
         obtain ⟨rfl, rfl, rfl⟩ : 0 = r1 ∧ 0 = r2 ∧ 8 = r3 := by simpa using H
         clear H H' hx0
         go_wp2
         rw [Exit.noGoto_ret]
         go_ret3
         exact ⟨rfl, HB1.out⟩
        ·have H := H'.out
         rw [if_neg (fun h => h1x h.2), if_pos h128, if_neg (fun h => hfr h.2)] at H
         obtain ⟨rfl, rfl, rfl⟩ : rvn n x s = r1 ∧ p + 1 = r2 ∧ 0 = r3 := by simpa using H
         clear H H' hx0
         go_wp2
         go_quiet (fail)
         go_wp2
         rw [Exit.noGoto_ret]
         go_ret3
         exact ⟨by rw [hv.out]; rfl, by repeat (first | exact HB1.out | apply pw_below_drewN | apply below_drew1)⟩
       ·have hx0b : (x == 0) = false := beq_eq_false_iff_ne.2 hx0
        have H := H'.out
        rw [if_neg (fun h => h1x h.2), if_pos h128, if_neg (fun h => hx0 h.1)] at H
        obtain ⟨rfl, rfl, rfl⟩ : rvn n x s = r1 ∧ p + 1 = r2 ∧ 0 = r3 := by simpa using H
        clear H H' hx0
        go_wp2
        go_quiet (fail)
        go_wp2
        rw [Exit.noGoto_ret]
        go_ret3
        exact ⟨by rw [hv.out]; rfl, by repeat (first | exact HB1.out | apply pw_below_drewN | apply below_drew1)⟩
      ·have h128b := decide_eq_false h128
       exact absurd h128 (by omega)
    ·have h9b : (s == 63) = false := beq_eq_false_iff_ne.2 h9
     have h9 := Aside0.mk h9
     by_cases h128 : x < 128
     ·have h128b := decide_eq_true h128
      by_cases hx0 : x = 0
      ·have hx0b : (x == 0) = true := beq_iff_eq.2 hx0
       by_cases hfr : 1 < p + 1 - a1
       ·have H := H'.out
        rw [if_neg (fun h => h9.out h.1), if_pos h128, if_pos ⟨hx0, hfr⟩] at H
        obtain ⟨rfl, rfl, rfl⟩ : 0 = r1 ∧ 0 = r2 ∧ 8 = r3 := by simpa using H
        clear H H' hx0
        go_wp2
        rw [Exit.noGoto_ret]
        go_ret3
        exact ⟨rfl, HB1.out⟩
       ·have H := H'.out
        rw [if_neg (fun h => h9.out h.1), if_pos h128, if_neg (fun h => hfr h.2)] at H
        obtain ⟨rfl, rfl, rfl⟩ : rvn n x s = r1 ∧ p + 1 = r2 ∧ 0 = r3 := by simpa using H
        clear H H' hx0
        go_wp2
        go_quiet (fail)
        go_wp2
        rw [Exit.noGoto_ret]
        go_ret3
        exact ⟨rfl, by repeat (first | exact HB1.out | apply pw_below_drewN | apply below_drew1)⟩
      ·have hx0b : (x == 0) = false := beq_eq_false_iff_ne.2 hx0
       have H := H'.out
       rw [if_neg (fun h => h9.out h.1), if_pos h128, if_neg (fun h => hx0 h.1)] at H
       obtain ⟨rfl, rfl, rfl⟩ : rvn n x s = r1 ∧ p + 1 = r2 ∧ 0 = r3 := by simpa using H
       clear H H' hx0
       go_wp2
       go_quiet (fail)
       go_wp2
       rw [Exit.noGoto_ret]
       go_ret3
       exact ⟨rfl, by repeat (first | exact HB1.out | apply pw_below_drewN | apply below_drew1)⟩
     ·have h128b := decide_eq_false h128
      have H := H'.out
      rw [if_neg (fun h => h9.out h.1), if_neg h128] at H
      clear H'
      have H' := Aside0.mk H
      clear H
      go_wp2
      go_roundg k1
      case measure => have := HK.out; omega
      case rel => exact ⟨p + 1, s + 7, rvn n x s, x, rfl, rfl, rfl, H', ⟨by have := HK.out; omega⟩, by omega, by have := h9.out; have := hs7.out; omega, ⟨by have := hs7.out; omega⟩, by omega, by omega, HG0'.out, HG1'.out, ⟨HB1.out⟩⟩
   ·rw [if_neg hlt] at H
    obtain ⟨rfl, rfl, rfl⟩ : 0 = r1 ∧ 0 = r2 ∧ 6 = r3 := by simpa using H
    clear H
    have HN := rv_next_no wr w.heap.size (w.heap.size + 1) A0 l0.length c0 p hb ha (decide_eq_true (by omega))
    go_wp2_with fail
    refine HN.mono ?_
    clear HN
    rintro e W1 ⟨rfl, rfl⟩
    go_wp2
    rw [Exit.noGoto_ret]
    go_ret3
    exact ⟨rfl, HB.out⟩
def bits_ReadVarint.f (k : Nat) (l0 : List Int) (a1 : Int) : Option (Int × Int × Int) := if a1 < 0 then some (0, 0, 2) else if a1 > (l0.length : Int) then some (0, 0, 2) else rvl k l0 a1 a1 0 0
theorem rvl_mono : ∀ k b fr p s n, LeO (rvl k b fr p s n) (rvl (k + 1) b fr p s n)
 | 0, _, _, _, _, _ => LeO.none _
 | k + 1, b, fr, p, s, n => by
  rw [rvl, rvl]
  exact LeO.ite (LeO.ite (LeO.refl _) (LeO.ite (LeO.refl _) (rvl_mono k _ _ _ _ _))) (LeO.refl _)
theorem bits_ReadVarint.mono : ∀ l0 a1 k, LeO (bits_ReadVarint.f k l0 a1) (bits_ReadVarint.f (k + 1) l0 a1) := by
 intro l0 a1 k
 unfold bits_ReadVarint.f
 exact LeO.ite (LeO.refl _) (LeO.ite (LeO.refl _) (rvl_mono k _ _ _ _ _))
set_option maxHeartbeats 400000 in
theorem rv_bad (A0 : Option Addr) (c0 : Nat) (l0 : List Int) (a1 : Int) (w : World) (h : a1 < 0 ∨ a1 > (l0.length : Int)) :
  Calls Try.prog 66 #[.slice A0 l0.length c0, .int .i64 a1] w fun e w' => e = .returned (.tuple #[.int .u64 0, .int .i64 0, .int .i64 2]) ∧ Below w.heap.size w w' := by
 by_cases h0 : a1 < 0
 ·clear h
  have h0b := decide_eq_true h0
  go_enter Try.func66, Try.ntmps66
  go_wp2
  go_step3
  go_wp2
  rw [Exit.noGoto_ret]
  go_ret3
  exact ⟨rfl, below_alloc (below_alloc (Below.refl _ _) _) _⟩
 ·have h1 : (l0.length : Int) < a1 := by omega
  clear h
  have h0b := decide_eq_false h0
  have h1b := decide_eq_true h1
  go_enter Try.func66, Try.ntmps66
  go_wp2
  go_step3
  go_wp2
  rw [Exit.noGoto_ret]
  go_ret3
  exact ⟨rfl, below_alloc (below_alloc (Below.refl _ _) _) _⟩
theorem bits_ReadVarint.calls (k : Nat) (A0 : Option Addr) (c0 : Nat) (l0 : List Int) (a1 : Int) (r1 : Int) (r2 : Int) (r3 : Int) (w : World) (hr0 : Kd.C (Kd.int .u8) w A0 l0.length l0) (hc0 : l0.length ≤ c0) (h : bits_ReadVarint.f k l0 a1 = some (r1, r2, r3)) :
  Calls Try.prog 66 #[.slice A0 l0.length c0, .int .i64 a1] w fun e w' => e = .returned (.tuple #[.int .u64 r1, .int .i64 r2, .int .i64 r3]) ∧ Below w.heap.size w w' := by
 unfold bits_ReadVarint.f at h
 by_cases c : a1 < 0
 ·rw [if_pos c] at h
  obtain ⟨rfl, rfl, rfl⟩ : 0 = r1 ∧ 0 = r2 ∧ 2 = r3 := by simpa using h
  exact rv_bad A0 c0 l0 a1 w (.inl c)
 ·rw [if_neg c] at h
  by_cases d : a1 > (l0.length : Int)
  ·rw [if_pos d] at h
   obtain ⟨rfl, rfl, rfl⟩ : 0 = r1 ∧ 0 = r2 ∧ 2 = r3 := by simpa using h
   exact rv_bad A0 c0 l0 a1 w (.inr d)
  ·rw [if_neg d] at h
   exact rv_walk k A0 c0 l0 a1 r1 r2 r3 w hr0 hc0 (by omega) (by omega) h
end Go.Proofs.Ytpibhiacmceekaa.X
end

section
namespace Go.Proofs.Ytpibhiacmceekaa.X
open Go.RowKit Go.Proofs.YtpibhiacmceekaaW.PrintWords Go.Proofs.YtpibhiacmceekaaW.PrintLast Go.Proofs.YtpibhiacmceekaaW.PrintMore
set_option linter.unusedVariables false
set_option linter.unusedSimpArgs false
def stopP (why : Int) : List PanicEntry := [{ v := .iface 114 (.agg #[.int .i64 why]), recovered := false }]
theorem hy_must_ok (why : Int) (w : World) : Calls Try.prog 64 #[.bool true, .int .i64 why] w fun e w' => (∃ v, e = .returned v) ∧ w' = w := by
  go_enter Try.func64, Try.ntmps64
  go_wp2
  go_end0
  exact ⟨⟨_, rfl⟩, rfl⟩
theorem hy_must_no (why : Int) (w : World) : Calls Try.prog 64 #[.bool false, .int .i64 why] w fun e w' => e = .panicked (stopP why) ∧ w' = w := by
  go_enter Try.func64, Try.ntmps64
  go_wp2
  exact ⟨rfl, rfl, rfl⟩
theorem hy_right_ok (w : World) : Calls Try.prog 67 #[.int .i64 0] w fun e w' => (∃ v, e = .returned v) ∧ w' = w := by
  have HM := Aside0.mk (fun why W => hy_must_ok why W)
  go_enter Try.func67, Try.ntmps67
  go_wp2_with fail
  refine (HM.out _ _).mono ?_
  rintro e W ⟨⟨v, rfl⟩, rfl⟩
  go_wp2
  go_end0
  exact ⟨⟨_, rfl⟩, rfl⟩
theorem hy_right_no (why : Int) (h : why ≠ 0) (w : World) : Calls Try.prog 67 #[.int .i64 why] w fun e w' => e = .panicked (stopP why) ∧ w' = w := by
  have HM := Aside0.mk (fun why W => hy_must_no why W)
  have hb : (why == 0) = false := by simp [h]
  clear h
  go_enter Try.func67, Try.ntmps67
  go_wp2_with fail
  refine (HM.out _ _).mono ?_
  rintro e W ⟨rfl, rfl⟩
  exact ⟨rfl, rfl, rfl⟩
def HyB (w0 w : World) : Prop := Below w0.heap.size w0 w ∧ w.heap[w0.heap.size + 1]? = some (.cells #[.slice none 0 0, .slice none 0 0, .int .i64 0] 82 (0, 0)) ∧ w.heap[w0.heap.size + 2]? = some (.cells #[.int .i64 0] 24 (0, 0))
def HyI (w0 : World) (vb : Value) (l : List Int) (at_ : Int) (M : Nat) (w : World) : Prop :=
  ∃ lv rv m rs, HyB w0 w ∧ w.heap[w0.heap.size]? = some (.cells #[vb] 37 (0, 0)) ∧ w.heap[w0.heap.size + 3]? = some (.cells #[lv, rv, .int .i64 at_] 82 (0, 0)) ∧
    w.ownsRow w0.heap.size 3 1 lv l.length (nums .i64 l) ∧ w.ownsRow w0.heap.size 118 2 rv m rs ∧ m ≤ M
theorem HyB.below {w0 w w' : World} (h : HyB w0 w) (hb : Below w.heap.size w w') : HyB w0 w' := ⟨h.1.trans (hb.mono h.1.size), blk_below h.2.1 hb, blk_below h.2.2 hb⟩
theorem own_below' {w w' : World} {base n : Nat} {e : TypeId} {size : Nat} {v : Value} {xs : List Value} (h : w.ownsRow base e size v n xs) (hb : Below w.heap.size w w') : w'.ownsRow base e size v n xs :=
  h.kept (row := none) ⟨hb.os, hb.tape, hb.output, hb.size, fun k hk _ => hb.block k hk⟩ (by cases hv : v.ownBlock <;> simp)
theorem HyI.below {w0 w w' : World} {vb : Value} {l : List Int} {a : Int} {M : Nat} (h : HyI w0 vb l a M w) (hb : Below w.heap.size w w') : HyI w0 vb l a M w' := by
  obtain ⟨lv, rv, m, rs, h1, h2, h3, h4, h5, h6⟩ := h
  exact ⟨lv, rv, m, rs, h1.below hb, blk_below h2 hb, blk_below h3 hb, own_below' h4 hb, own_below' h5 hb, h6⟩
theorem own_apart {w : World} {base n1 n2 s1 s2 : Nat} {e1 e2 : TypeId} {v1 v2 : Value} {xs1 xs2 : List Value} (h1 : w.ownsRow base e1 s1 v1 n1 xs1) (h2 : w.ownsRow base e2 s2 v2 n2 xs2) (hne : e1 ≠ e2) : v2.ownBlock = none ∨ v2.ownBlock ≠ v1.ownBlock := by
  obtain ⟨_, h2 | ⟨g, cap, cur, rfl, hb, hg, _⟩⟩ := h2
  · left; rw [h2.1]; rfl
  · right; exact own_ne h1 hg hne
theorem HyI.setAt {w0 w : World} {vb : Value} {l : List Int} {a : Int} {M : Nat} (h : HyI w0 vb l a M w) (a' : Int) : HyI w0 vb l a' M (w.setCell ⟨w0.heap.size + 3, 2, none⟩ (.int .i64 a')) := by
  obtain ⟨lv, rv, m, rs, ⟨hb, hb1, hb2⟩, h2, h3, h4, h5, h6⟩ := h
  refine ⟨lv, rv, m, rs, ⟨hb.setCell (p := ⟨w0.heap.size + 3, 2, none⟩) (by simp) _, blk_far hb1 (by simp) _, blk_far hb2 (by simp) _⟩, blk_far h2 (by simp) _, blk_set h3 2 _, own_setCell h4 (own_ne h4 h3 (by decide)) _, own_setCell h5 (own_ne h5 h3 (by decide)) _, h6⟩
theorem HyI.putL {w0 w w1 : World} {lv rv v1 : Value} {m : Nat} {rs : List Value} {l ys : List Int} {vb : Value} {a : Int} (hB : HyB w0 w) (h2 : w.heap[w0.heap.size]? = some (.cells #[vb] 37 (0, 0))) (h3 : w.heap[w0.heap.size + 3]? = some (.cells #[lv, rv, .int .i64 a] 82 (0, 0)))
    (h4 : w.ownsRow w0.heap.size 3 1 lv l.length (nums .i64 l)) (h5 : w.ownsRow w0.heap.size 118 2 rv m rs) {M : Nat} (h6 : m ≤ M)
    (ho : w1.ownsRow w0.heap.size 3 1 v1 ys.length (nums .i64 ys)) (hb : Below w0.heap.size w0 w1) (hg : w.grownBy w1 lv.ownBlock) : HyI w0 vb ys a M (w1.setCell ⟨w0.heap.size + 3, 0, none⟩ v1) := by
  have g3 := blk_grown h3 hg (own_ne h4 h3 (by decide))
  refine ⟨v1, rv, m, rs, ⟨hb.setCell (p := ⟨w0.heap.size + 3, 0, none⟩) (by simp) _, blk_far (blk_grown hB.2.1 hg (own_ne h4 hB.2.1 (by decide))) (by simp) _, blk_far (blk_grown hB.2.2 hg (own_ne h4 hB.2.2 (by decide))) (by simp) _⟩,
    blk_far (blk_grown h2 hg (own_ne h4 h2 (by decide))) (by simp) _, blk_set g3 0 _, own_setCell ho (own_ne ho g3 (by decide)) _, own_setCell (own_other h5 hg (own_apart h4 h5 (by decide))) ?_ _, h6⟩
  exact own_ne (own_other h5 hg (own_apart h4 h5 (by decide))) g3 (by decide)
theorem HyI.putR {w0 w w1 : World} {lv rv v1 : Value} {m m' : Nat} {rs rs' : List Value} {l : List Int} {vb : Value} {a : Int} (hB : HyB w0 w) (h2 : w.heap[w0.heap.size]? = some (.cells #[vb] 37 (0, 0))) (h3 : w.heap[w0.heap.size + 3]? = some (.cells #[lv, rv, .int .i64 a] 82 (0, 0)))
    (h4 : w.ownsRow w0.heap.size 3 1 lv l.length (nums .i64 l)) (h5 : w.ownsRow w0.heap.size 118 2 rv m rs) {M : Nat} (h6 : m' ≤ M)
    (ho : w1.ownsRow w0.heap.size 118 2 v1 m' rs') (hb : Below w0.heap.size w0 w1) (hg : w.grownBy w1 rv.ownBlock) : HyI w0 vb l a M (w1.setCell ⟨w0.heap.size + 3, 1, none⟩ v1) := by
  have g3 := blk_grown h3 hg (own_ne h5 h3 (by decide))
  refine ⟨lv, v1, m', rs', ⟨hb.setCell (p := ⟨w0.heap.size + 3, 1, none⟩) (by simp) _, blk_far (blk_grown hB.2.1 hg (own_ne h5 hB.2.1 (by decide))) (by simp) _, blk_far (blk_grown hB.2.2 hg (own_ne h5 hB.2.2 (by decide))) (by simp) _⟩,
    blk_far (blk_grown h2 hg (own_ne h5 h2 (by decide))) (by simp) _, blk_set g3 1 _, own_setCell (own_other h4 hg (own_apart h5 h4 (by decide))) ?_ _, own_setCell ho (own_ne ho g3 (by decide)) _, h6⟩
  exact own_ne (own_other h4 hg (own_apart h5 h4 (by decide))) g3 (by decide)
end Go.Proofs.Ytpibhiacmceekaa.X
end
