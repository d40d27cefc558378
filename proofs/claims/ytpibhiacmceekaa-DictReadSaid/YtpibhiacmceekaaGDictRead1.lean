/- DictRead: texts of this seat in one (wip/merge.py): X17, X31, X41, Ri, Bi, X43, X64, Hy, Hr, Hq, Hh, Ha. -/
import Derived.Test.YtpibhiacmceekaaGDictRead0
import Derived.StillTailTactics
import Derived.RangeFuncNested
import Derived.RangeFuncBound
import Derived.RangeFuncCalls
import Derived.RangeFuncLeaves
import Derived.RangeFuncFrom
import Derived.RangeFuncWrites
import Derived.RangeFuncBox
import Derived.OrdersIn
import Derived.OwnWalkIn
import Derived.TacticsInMore
import Derived.LoopNIn
import Derived.LoopIn
import Derived.Shelf.Abstract
import Derived.Outline
import Derived.Recover
import Derived.WalkLawsBesides
import Derived.Laws.CopyOwn
section
namespace Go.Proofs.Ytpibhiacmceekaa.X
open Go.RowKit Go.Proofs.YtpibhiacmceekaaW.PrintWords Go.Proofs.YtpibhiacmceekaaW.PrintLast Go.Proofs.YtpibhiacmceekaaW.PrintMore
attribute [local go_sem] max2_int min2_int max_two min_two max_three min_three max_four min_four
set_option linter.unusedVariables false
set_option linter.unusedSimpArgs false
mutual
def hybrid_Write.j0 : Nat → Int → List Int → Bool → Option (List Int × Int)
 | 0, _, _, _ => none
 | k + 1, x0, x1, x22 => if x22 = true then (some (([] : List Int), 2)) else (hybrid_Write.l0 k x0 x1 x1 (x1.length : Int) 0)
def hybrid_Write.l0 : Nat → Int → List Int → List Int → Int → Int → Option (List Int × Int)
 | 0, _, _, _, _, _ => none
 | k + 1, x0, x1, x23, x24, x25 => if x25 < x24 then (if 0 ≤ x25 then (if x25 < (x23.length : Int) then (if (rd x23 x25) < 0 then (some (([] : List Int), 2)) else ((bits_Width.f k (IntKind.u64.wrap (rd x23 x25))).bind fun t131 => (if t131 > x0 then (some (([] : List Int), 2)) else (hybrid_Write.l0 k x0 x1 x23 x24 (wrap64 (x25 + 1)))))) else (none)) else (none)) else (if (x1.length : Int) > 65536 then (some (([] : List Int), 3)) else (hybrid_Write.l1 k x0 x1 ([] : List Int)))
def hybrid_Write.l1 : Nat → Int → List Int → List Int → Option (List Int × Int)
 | 0, _, _, _ => none
 | k + 1, x0, x1, x8 => if (x1.length : Int) > 0 then ((hybrid_same.f k x1).bind fun t132 => (if t132 ≥ 8 then ((bits_Varint.f k (IntKind.u64.wrap (wrap64 (2 * t132)))).bind fun t133 => (if x8.length + t133.length < 140737488355328 then ((some (x8 ++ t133 : List Int)).bind fun y136 => (if 0 < (x1.length : Int) then ((bits_Little.f k (IntKind.u64.wrap (rd x1 0)) (wrap64 (Int.tdiv (wrap64 (x0 + 7)) 8))).bind fun bt140 => (if y136.length + bt140.1.length < 140737488355328 then (if 0 ≤ t132 then (if t132 ≤ (x1.length : Int) then (hybrid_Write.l1 k x0 (x1.drop (t132 : Int).toNat) (y136 ++ bt140.1)) else (none)) else (none)) else (none))) else (none))) else (none))) else ((hybrid_packs.f k x1).bind fun t152 => (if 0 ≤ (wrap64 ((wrap64 (Int.tdiv (wrap64 (t152 + 7)) 8)) * 8)) then (if (wrap64 ((wrap64 (Int.tdiv (wrap64 (t152 + 7)) 8)) * 8) : Int).toNat ≤ 35184372088832 then (if 0 ≤ t152 then (if t152 ≤ (x1.length : Int) then ((some (x1.take (t152 : Int).toNat : List Int)).bind fun y156 => (hybrid_Write.l2 k x0 x1 x8 t152 (List.replicate (wrap64 ((wrap64 (Int.tdiv (wrap64 (t152 + 7)) 8)) * 8) : Int).toNat 0) y156 (y156.length : Int) 0)) else (none)) else (none)) else (none)) else (none))))) else (if (x8.length : Int) > 1048576 then (some (([] : List Int), 3)) else (some (x8, 0)))
def hybrid_Write.l2 : Nat → Int → List Int → List Int → Int → List Int → List Int → Int → Int → Option (List Int × Int)
 | 0, _, _, _, _, _, _, _, _ => none
 | k + 1, x0, x1, x8, x9, x12, x81, x82, x83 => if x83 < x82 then (if 0 ≤ x83 then (if x83 < (x81.length : Int) then (if x83 < (x12.length : Int) then (hybrid_Write.l2 k x0 x1 x8 x9 (x12.set (x83 : Int).toNat (IntKind.u64.wrap (rd x81 x83))) x81 x82 (wrap64 (x83 + 1))) else (none)) else (none)) else (none)) else ((bits_Varint.f k (IntKind.u64.wrap (wrap64 ((wrap64 ((wrap64 ((x12.length : Int) / 8)) * 2)) + 1)))).bind fun t163 => (if x8.length + t163.length < 140737488355328 then ((some (x8 ++ t163 : List Int)).bind fun y166 => ((bits_Pack.f k x0 x12).bind fun bt169 => (if y166.length + bt169.1.length < 140737488355328 then (if 0 ≤ x9 then (if x9 ≤ (x1.length : Int) then (hybrid_Write.l1 k x0 (x1.drop (x9 : Int).toNat) (y166 ++ bt169.1)) else (none)) else (none)) else (none)))) else (none)))
end
def hybrid_Write.f (k : Nat) (a0 : Int) (l1 : List Int) : Option (List Int × Int) := if a0 < 0 then (hybrid_Write.j0 k a0 l1 true) else (hybrid_Write.j0 k a0 l1 (decide (a0 > 32)))
theorem hybrid_Write.mono_l : ∀ k, (∀ y0 y1 y2, LeO (hybrid_Write.j0 k y0 y1 y2) (hybrid_Write.j0 (k + 1) y0 y1 y2)) ∧ (∀ y0 y1 y2 y3 y4, LeO (hybrid_Write.l0 k y0 y1 y2 y3 y4) (hybrid_Write.l0 (k + 1) y0 y1 y2 y3 y4)) ∧ (∀ y0 y1 y2, LeO (hybrid_Write.l1 k y0 y1 y2) (hybrid_Write.l1 (k + 1) y0 y1 y2)) ∧ (∀ y0 y1 y2 y3 y4 y5 y6 y7, LeO (hybrid_Write.l2 k y0 y1 y2 y3 y4 y5 y6 y7) (hybrid_Write.l2 (k + 1) y0 y1 y2 y3 y4 y5 y6 y7))
 | 0 => ⟨fun _ _ _ r h => by simp [hybrid_Write.j0] at h, fun _ _ _ _ _ r h => by simp [hybrid_Write.l0] at h, fun _ _ _ r h => by simp [hybrid_Write.l1] at h, fun _ _ _ _ _ _ _ _ r h => by simp [hybrid_Write.l2] at h⟩
 | k + 1 => by
  obtain ⟨ih0, ih1, ih2, ih3⟩ := hybrid_Write.mono_l k
  refine ⟨?_, ?_, ?_, ?_⟩
  ·intro y0 y1 y2
   unfold hybrid_Write.j0
   repeat' first
   | (with_reducible exact ih0 _ _ _)
   | (with_reducible exact ih1 _ _ _ _ _)
   | (with_reducible exact ih2 _ _ _)
   | (with_reducible exact ih3 _ _ _ _ _ _ _ _)
   | (with_reducible exact bits_Little.mono _ _ _)
   | (with_reducible exact bits_Pack.mono _ _ _)
   | (with_reducible exact bits_Varint.mono _ _)
   | (with_reducible exact bits_Width.mono _ _)
   | (with_reducible exact hybrid_packs.mono _ _)
   | (with_reducible exact hybrid_same.mono _ _)
   | (with_reducible exact LeO.refl _)
   | (with_reducible exact LeO.none _)
   | (with_reducible refine LeO.ite ?_ ?_)
   | (with_reducible refine LeO.bind ?_ (fun _ => ?_))
   | exact ih0 _ _ _
   | exact ih1 _ _ _ _ _
   | exact ih2 _ _ _
   | exact ih3 _ _ _ _ _ _ _ _
   | exact bits_Little.mono _ _ _
   | exact bits_Pack.mono _ _ _
   | exact bits_Varint.mono _ _
   | exact bits_Width.mono _ _
   | exact hybrid_packs.mono _ _
   | exact hybrid_same.mono _ _
   | exact LeO.none _
   | refine LeO.ite ?_ ?_
   | refine LeO.bind ?_ (fun _ => ?_)
  ·intro y0 y1 y2 y3 y4
   unfold hybrid_Write.l0
   repeat' first
   | (with_reducible exact ih0 _ _ _)
   | (with_reducible exact ih1 _ _ _ _ _)
   | (with_reducible exact ih2 _ _ _)
   | (with_reducible exact ih3 _ _ _ _ _ _ _ _)
   | (with_reducible exact bits_Little.mono _ _ _)
   | (with_reducible exact bits_Pack.mono _ _ _)
   | (with_reducible exact bits_Varint.mono _ _)
   | (with_reducible exact bits_Width.mono _ _)
   | (with_reducible exact hybrid_packs.mono _ _)
   | (with_reducible exact hybrid_same.mono _ _)
   | (with_reducible exact LeO.refl _)
   | (with_reducible exact LeO.none _)
   | (with_reducible refine LeO.ite ?_ ?_)
   | (with_reducible refine LeO.bind ?_ (fun _ => ?_))
   | exact ih0 _ _ _
   | exact ih1 _ _ _ _ _
   | exact ih2 _ _ _
   | exact ih3 _ _ _ _ _ _ _ _
   | exact bits_Little.mono _ _ _
   | exact bits_Pack.mono _ _ _
   | exact bits_Varint.mono _ _
   | exact bits_Width.mono _ _
   | exact hybrid_packs.mono _ _
   | exact hybrid_same.mono _ _
   | exact LeO.none _
   | refine LeO.ite ?_ ?_
   | refine LeO.bind ?_ (fun _ => ?_)
  ·intro y0 y1 y2
   unfold hybrid_Write.l1
   repeat' first
   | (with_reducible exact ih0 _ _ _)
   | (with_reducible exact ih1 _ _ _ _ _)
   | (with_reducible exact ih2 _ _ _)
   | (with_reducible exact ih3 _ _ _ _ _ _ _ _)
   | (with_reducible exact bits_Little.mono _ _ _)
   | (with_reducible exact bits_Pack.mono _ _ _)
   | (with_reducible exact bits_Varint.mono _ _)
   | (with_reducible exact bits_Width.mono _ _)
   | (with_reducible exact hybrid_packs.mono _ _)
   | (with_reducible exact hybrid_same.mono _ _)
   | (with_reducible exact LeO.refl _)
   | (with_reducible exact LeO.none _)
   | (with_reducible refine LeO.ite ?_ ?_)
   | (with_reducible refine LeO.bind ?_ (fun _ => ?_))
   | exact ih0 _ _ _
   | exact ih1 _ _ _ _ _
   | exact ih2 _ _ _
   | exact ih3 _ _ _ _ _ _ _ _
   | exact bits_Little.mono _ _ _
   | exact bits_Pack.mono _ _ _
   | exact bits_Varint.mono _ _
   | exact bits_Width.mono _ _
   | exact hybrid_packs.mono _ _
   | exact hybrid_same.mono _ _
   | exact LeO.none _
   | refine LeO.ite ?_ ?_
   | refine LeO.bind ?_ (fun _ => ?_)
  ·intro y0 y1 y2 y3 y4 y5 y6 y7
   unfold hybrid_Write.l2
   repeat' first
   | (with_reducible exact ih0 _ _ _)
   | (with_reducible exact ih1 _ _ _ _ _)
   | (with_reducible exact ih2 _ _ _)
   | (with_reducible exact ih3 _ _ _ _ _ _ _ _)
   | (with_reducible exact bits_Little.mono _ _ _)
   | (with_reducible exact bits_Pack.mono _ _ _)
   | (with_reducible exact bits_Varint.mono _ _)
   | (with_reducible exact bits_Width.mono _ _)
   | (with_reducible exact hybrid_packs.mono _ _)
   | (with_reducible exact hybrid_same.mono _ _)
   | (with_reducible exact LeO.refl _)
   | (with_reducible exact LeO.none _)
   | (with_reducible refine LeO.ite ?_ ?_)
   | (with_reducible refine LeO.bind ?_ (fun _ => ?_))
   | exact ih0 _ _ _
   | exact ih1 _ _ _ _ _
   | exact ih2 _ _ _
   | exact ih3 _ _ _ _ _ _ _ _
   | exact bits_Little.mono _ _ _
   | exact bits_Pack.mono _ _ _
   | exact bits_Varint.mono _ _
   | exact bits_Width.mono _ _
   | exact hybrid_packs.mono _ _
   | exact hybrid_same.mono _ _
   | exact LeO.none _
   | refine LeO.ite ?_ ?_
   | refine LeO.bind ?_ (fun _ => ?_)
theorem hybrid_Write.mono : ∀ a0 a1 k, LeO (hybrid_Write.f k a0 a1) (hybrid_Write.f (k + 1) a0 a1) := by
 intro a0 a1 k
 obtain ⟨ih0, ih1, ih2, ih3⟩ := hybrid_Write.mono_l k
 unfold hybrid_Write.f
 repeat' first
   | (with_reducible exact ih0 _ _ _)
   | (with_reducible exact ih1 _ _ _ _ _)
   | (with_reducible exact ih2 _ _ _)
   | (with_reducible exact ih3 _ _ _ _ _ _ _ _)
   | (with_reducible exact bits_Little.mono _ _ _)
   | (with_reducible exact bits_Pack.mono _ _ _)
   | (with_reducible exact bits_Varint.mono _ _)
   | (with_reducible exact bits_Width.mono _ _)
   | (with_reducible exact hybrid_packs.mono _ _)
   | (with_reducible exact hybrid_same.mono _ _)
   | (with_reducible exact LeO.refl _)
   | (with_reducible exact LeO.none _)
   | (with_reducible refine LeO.ite ?_ ?_)
   | (with_reducible refine LeO.bind ?_ (fun _ => ?_))
   | exact ih0 _ _ _
   | exact ih1 _ _ _ _ _
   | exact ih2 _ _ _
   | exact ih3 _ _ _ _ _ _ _ _
   | exact bits_Little.mono _ _ _
   | exact bits_Pack.mono _ _ _
   | exact bits_Varint.mono _ _
   | exact bits_Width.mono _ _
   | exact hybrid_packs.mono _ _
   | exact hybrid_same.mono _ _
   | exact LeO.none _
   | refine LeO.ite ?_ ?_
   | refine LeO.bind ?_ (fun _ => ?_)
set_option maxHeartbeats 8000000 in
set_option maxRecDepth 100000 in
theorem hybrid_Write.calls (k : Nat) (a0 : Int) (P1_ : Nat → Prop) (A1 : Option Addr) (c1 : Nat) (l1 : List Int) (r1 : List Int) (r2 : Int) (w : World) (hs1 : Kd.V (Kd.int .i64) 3 w w.heap.size (fun k_ => P1_ k_) (.slice A1 l1.length c1) l1) (h : hybrid_Write.f k a0 l1 = some (r1, r2)) :
  Calls Try.prog 18 #[.int .i64 a0, .slice A1 l1.length c1] w fun e w' => ∃ v0_ : Value, e = .returned (.tuple #[v0_, .int .i64 r2]) ∧ Kd.R (Kd.int .u8) 5 w' w.heap.size (fun k_ => (w.heap.size ≤ k_)) v0_ r1 ∧ Below w.heap.size w w' := by
 have HO1 := Aside0.mk (show Kd.V (Kd.int .i64) 3 w w.heap.size (fun k_ => (P1_ k_ ∨ w.heap.size ≤ k_)) (.slice A1 l1.length c1) l1 from Kd.V_mono hs1 (fun k_ hk => .inl hk))
 have HB := Aside0.mk (Below.refl w.heap.size w)
 have H : (if a0 < 0 then (hybrid_Write.j0 k a0 l1 true) else (hybrid_Write.j0 k a0 l1 (decide (a0 > 32)))) = some (r1, r2) := h
 clear h
 have HC3 := Aside0.mk H
 clear H
 go_enter Try.func18, Try.ntmps18
 go_upto_region 1 with (fail)
 go_cut [22] (fun v22 wc => ∃ (kq : Nat) (x22_2 : Bool), v22 = .bool x22_2 ∧ Aside0 (hybrid_Write.j0 kq a0 l1 x22_2 = some (r1, r2)) ∧ Aside0 (kq ≤ k) ∧ Aside0 (Kd.V (Kd.int .i64) 3 wc w.heap.size (fun k_ => (P1_ k_ ∨ w.heap.size ≤ k_)) (.slice A1 l1.length c1) l1) ∧ Aside0 (Below w.heap.size w wc))
 case first =>
  have H := HC3.out
  clear HC3
  by_cases c4 : a0 < 0
  ·rw [if_pos c4] at H
   have c4b0 : decide (a0 < 0) = true := decide_eq_true c4
   clear c4
   (first | rw [c4b0] | (simp only [i64_w, i32_w]; rw [c4b0]) | skip)
   have H' := Aside0.mk H
   clear H
   go_wp2
   go_meet
   case rel => exact ⟨_, (true), (by first | rfl | (simp; done) | (simp [*]; done)), H', ⟨by first | omega | exact Nat.le_refl _⟩, ⟨by (with_reducible repeat (first | apply Kd.V_alloc | apply Kd.V_drewN | apply Kd.V_drew)); exact HO1.out⟩, ⟨by repeat (first | (with_reducible first | exact HB.out | apply below_alloc | apply pw_below_drewN | apply below_drew1) | exact HB.out)⟩⟩
  ·rw [if_neg c4] at H
   have c4b0 : decide (a0 < 0) = false := decide_eq_false c4
   clear c4
   (first | rw [c4b0] | (simp only [i64_w, i32_w]; rw [c4b0]) | skip)
   have H' := Aside0.mk H
   clear H
   go_wp2
   go_meet
   case rel => exact ⟨_, (decide (a0 > 32)), (by first | rfl | (simp; done) | (simp [*]; done)), H', ⟨by first | omega | exact Nat.le_refl _⟩, ⟨by (with_reducible repeat (first | apply Kd.V_alloc | apply Kd.V_drewN | apply Kd.V_drew)); exact HO1.out⟩, ⟨by repeat (first | (with_reducible first | exact HB.out | apply below_alloc | apply pw_below_drewN | apply below_drew1) | exact HB.out)⟩⟩
 case rest =>
  clear HC3
  try clear c1
  try clear p2
  try clear c4
  try clear c4b0
  obtain ⟨kq, x22_2, rfl, HA, HJ2, HO_1, HB⟩ := hcut
  cases kq with
  | zero => exact absurd HA.out (by simp [hybrid_Write.j0])
  | succ kj2 =>
   have H := HA.out
   clear HA
   simp only [hybrid_Write.j0] at H
   by_cases c5 : x22_2 = true
   ·subst c5
    have H1 : (some (([] : List Int), 2)) = some (r1, r2) := by rw [if_pos rfl] at H; exact H
    clear H
    have H := H1
    clear H1
    simp only [Option.some.injEq, Prod.mk.injEq] at H
    obtain ⟨rfl, rfl⟩ := H
    go_wp2
    go_ret2
    exact ⟨_, by first | rfl | (simp [errW_none, errW_some] <;> rfl) | (simp [*, errW_none, errW_some] <;> rfl), by first | exact Kd.R_nil _ _ _ _ _ | exact Kd.N_nil _ _ _ _ _ | exact Kd.V_nil _ _ _ _ _ | exact Kd.Q_nil _ _ _ _ _ | exact Kd.S_nil _ _ _ _ _, by repeat (first | (with_reducible first | exact HB.out | apply below_alloc | apply pw_below_drewN | apply below_drew1) | exact HB.out)⟩
   ·replace c5 := Bool.eq_false_iff.mpr c5
    subst c5
    have H1 : (hybrid_Write.l0 kj2 a0 l1 l1 (l1.length : Int) 0) = some (r1, r2) := by rw [if_neg (show ¬ (false = true) by decide)] at H; exact H
    clear H
    have H := H1
    clear H1
    have H' := Aside0.mk H
    clear H
    go_wp2
    go_loopg [25] kj2 (fun kq v25 w' => ∃ (x25_2 : Int), v25 = .int .i64 x25_2 ∧ Aside0 (hybrid_Write.l0 kq a0 l1 l1 (l1.length : Int) x25_2 = some (r1, r2)) ∧ Aside0 (kq ≤ kj2) ∧ Aside0 (Kd.V (Kd.int .i64) 3 w' w.heap.size (fun k_ => (P1_ k_ ∨ w.heap.size ≤ k_)) (.slice A1 l1.length c1) l1) ∧ Aside0 (Kd.V (Kd.int .i64) 3 w' w.heap.size (fun k_ => (P1_ k_ ∨ w.heap.size ≤ k_)) (.slice A1 l1.length c1) l1) ∧ Aside0 (Below w.heap.size w w'))
    case atStart => exact ⟨(0), (by first | rfl | (simp; done) | (simp [*]; done)), H', ⟨Nat.le_refl _⟩, ⟨by (with_reducible repeat (first | apply Kd.V_alloc | apply Kd.V_drewN | apply Kd.V_drew)); exact HO_1.out⟩, ⟨by (with_reducible repeat (first | apply Kd.V_alloc | apply Kd.V_drewN | apply Kd.V_drew)); exact HO_1.out⟩, ⟨by repeat (first | (with_reducible first | exact HB.out | apply below_alloc | apply pw_below_drewN | apply below_drew1) | exact HB.out)⟩⟩
    case round =>
     clear H'
     try clear c1
     try clear p2
     try clear c4
     try clear c4b0
     try clear c5
     try clear p2
     obtain ⟨x25_2, rfl, HA, HK2, HO_1, HO_23, HB⟩ := hrel
     cases gk with
     | zero => exact absurd HA.out (by simp [hybrid_Write.l0])
     | succ k2 =>
      have H := HA.out
      clear HA
      simp only [hybrid_Write.l0] at H
      by_cases c6 : x25_2 < (l1.length : Int)
      ·rw [if_pos c6] at H
       have c6b0 : decide (x25_2 < (l1.length : Int)) = true := decide_eq_true c6
       clear c6
       by_cases c7 : 0 ≤ x25_2
       ·rw [if_pos c7] at H
        have c7b0 : decide (0 ≤ x25_2) = true := decide_eq_true c7
        clear c7
        by_cases c8 : x25_2 < (l1.length : Int)
        ·rw [if_pos c8] at H
         have c8b0 : decide (x25_2 < (l1.length : Int)) = true := decide_eq_true c8
         clear c8
         by_cases c9 : (rd l1 x25_2) < 0
         ·rw [if_pos c9] at H
          have c9b0 : decide ((rd l1 x25_2) < 0) = true := decide_eq_true c9
          clear c9
          simp only [Option.some.injEq, Prod.mk.injEq] at H
          obtain ⟨rfl, rfl⟩ := H
          have p130 : 0 ≤ (x25_2 : Int) := of_decide_eq_true (by first | (with_reducible assumption) | assumption)
          have q130 : x25_2 < (l1.length : Int) := of_decide_eq_true (by first | (with_reducible assumption) | assumption)
          obtain ⟨ad130, e130, hx130_0⟩ := Kd.at_int (Kd.V_reads' HO_23.out).2.2 x25_2 p130 q130
          cases e130
          replace p130 := eq_true p130
          replace q130 := eq_true q130
          go_wp2
          go_ret2
          exact ⟨_, by first | rfl | (simp [errW_none, errW_some] <;> rfl) | (simp [*, errW_none, errW_some] <;> rfl), by first | exact Kd.R_nil _ _ _ _ _ | exact Kd.N_nil _ _ _ _ _ | exact Kd.V_nil _ _ _ _ _ | exact Kd.Q_nil _ _ _ _ _ | exact Kd.S_nil _ _ _ _ _, by repeat (first | (with_reducible first | exact HB.out | apply below_alloc | apply pw_below_drewN | apply below_drew1) | exact HB.out)⟩
         ·rw [if_neg c9] at H
          have c9b0 : decide ((rd l1 x25_2) < 0) = false := decide_eq_false c9
          clear c9
          replace H := Option.bind_eq_some_iff.mp H
          obtain ⟨t131, A100, H⟩ := H
          replace H : (if t131 > a0 then (some (([] : List Int), 2)) else (hybrid_Write.l0 k2 a0 l1 l1 (l1.length : Int) (wrap64 (x25_2 + 1)))) = some (r1, r2) := H
          have A10 := Aside0.mk A100
          clear A100
          by_cases c11 : t131 > a0
          ·rw [if_pos c11] at H
           have c11b0 : decide (a0 < t131) = true := decide_eq_true c11
           clear c11
           simp only [Option.some.injEq, Prod.mk.injEq] at H
           obtain ⟨rfl, rfl⟩ := H
           have p130 : 0 ≤ (x25_2 : Int) := of_decide_eq_true (by first | (with_reducible assumption) | assumption)
           have q130 : x25_2 < (l1.length : Int) := of_decide_eq_true (by first | (with_reducible assumption) | assumption)
           obtain ⟨ad130, e130, hx130_0⟩ := Kd.at_int (Kd.V_reads' HO_23.out).2.2 x25_2 p130 q130
           cases e130
           replace p130 := eq_true p130
           replace q130 := eq_true q130
           go_wp2_with (first | (go_at_call 36; (with_reducible refine (bits_Width.calls k2 (IntKind.u64.wrap (rd l1 x25_2)) t131 _ A10.out).mono ?_); rintro e w' ⟨rfl, ⟨nd, rfl⟩⟩))
           go_ret2
           exact ⟨_, by first | rfl | (simp [errW_none, errW_some] <;> rfl) | (simp [*, errW_none, errW_some] <;> rfl), by first | exact Kd.R_nil _ _ _ _ _ | exact Kd.N_nil _ _ _ _ _ | exact Kd.V_nil _ _ _ _ _ | exact Kd.Q_nil _ _ _ _ _ | exact Kd.S_nil _ _ _ _ _, by repeat (first | (with_reducible first | exact HB.out | apply below_alloc | apply pw_below_drewN | apply below_drew1) | exact HB.out)⟩
          ·rw [if_neg c11] at H
           have c11b0 : decide (a0 < t131) = false := decide_eq_false c11
           clear c11
           have H' := Aside0.mk H
           clear H
           have p130 : 0 ≤ (x25_2 : Int) := of_decide_eq_true (by first | (with_reducible assumption) | assumption)
           have q130 : x25_2 < (l1.length : Int) := of_decide_eq_true (by first | (with_reducible assumption) | assumption)
           obtain ⟨ad130, e130, hx130_0⟩ := Kd.at_int (Kd.V_reads' HO_23.out).2.2 x25_2 p130 q130
           cases e130
           replace p130 := eq_true p130
           replace q130 := eq_true q130
           go_wp2_with (first | (go_at_call 36; (with_reducible refine (bits_Width.calls k2 (IntKind.u64.wrap (rd l1 x25_2)) t131 _ A10.out).mono ?_); rintro e w' ⟨rfl, ⟨nd, rfl⟩⟩))
           go_roundg k2
           case measure => have := HJ2.out; have := HK2.out; omega
           case rel => exact ⟨(wrap64 (x25_2 + 1)), (by first | rfl | (simp; done) | (simp [*]; done)), H', ⟨by have := HJ2.out; have := HK2.out; omega⟩, ⟨by (with_reducible repeat (first | apply Kd.V_alloc | apply Kd.V_drewN | apply Kd.V_drew)); exact HO_1.out⟩, ⟨by (with_reducible repeat (first | apply Kd.V_alloc | apply Kd.V_drewN | apply Kd.V_drew)); exact HO_23.out⟩, ⟨by repeat (first | (with_reducible first | exact HB.out | apply below_alloc | apply pw_below_drewN | apply below_drew1) | exact HB.out)⟩⟩
        ·rw [if_neg c8] at H
         exact absurd H (by simp)
       ·rw [if_neg c7] at H
        exact absurd H (by simp)
      ·rw [if_neg c6] at H
       have c6b0 : decide (x25_2 < (l1.length : Int)) = false := decide_eq_false c6
       clear c6
       by_cases c12 : (l1.length : Int) > 65536
       ·rw [if_pos c12] at H
        have c12b0 : decide (65536 < (l1.length : Int)) = true := decide_eq_true c12
        have c12b1 : decide (65536 < l1.length) = true := decide_eq_true (by omega)
        clear c12
        simp only [Option.some.injEq, Prod.mk.injEq] at H
        obtain ⟨rfl, rfl⟩ := H
        go_wp2
        go_ret2
        exact ⟨_, by first | rfl | (simp [errW_none, errW_some] <;> rfl) | (simp [*, errW_none, errW_some] <;> rfl), by first | exact Kd.R_nil _ _ _ _ _ | exact Kd.N_nil _ _ _ _ _ | exact Kd.V_nil _ _ _ _ _ | exact Kd.Q_nil _ _ _ _ _ | exact Kd.S_nil _ _ _ _ _, by repeat (first | (with_reducible first | exact HB.out | apply below_alloc | apply pw_below_drewN | apply below_drew1) | exact HB.out)⟩
       ·rw [if_neg c12] at H
        have c12b0 : decide (65536 < (l1.length : Int)) = false := decide_eq_false c12
        have c12b1 : decide (65536 < l1.length) = false := decide_eq_false (by omega)
        clear c12
        have H' := Aside0.mk H
        clear H
        go_wp2
        go_loopg [1, 8] k2 (fun kq v1 v8 w' => ∃ (x1_3 : List Int) (x8_3 : List Int), Aside0 (hybrid_Write.l1 kq a0 x1_3 x8_3 = some (r1, r2)) ∧ Aside0 (kq ≤ k2) ∧ Aside0 (Kd.V (Kd.int .i64) 3 w' w.heap.size (fun k_ => (P1_ k_ ∨ w.heap.size ≤ k_) ∧ some k_ ≠ (v8 : Value).ownBlock) v1 x1_3) ∧ Aside0 (Kd.R (Kd.int .u8) 5 w' w.heap.size (fun k_ => (w.heap.size ≤ k_)) v8 x8_3) ∧ Aside0 (Below w.heap.size w w'))
        case atStart => exact ⟨(l1), (([] : List Int)), H', ⟨Nat.le_refl _⟩, ⟨by (with_reducible repeat (first | apply Kd.V_alloc | apply Kd.V_drewN | apply Kd.V_drew)); exact Kd.V_mono HO_1.out (fun _ hk => ⟨hk, (by simp [Value.ownBlock])⟩)⟩, ⟨by first | exact Kd.R_nil _ _ _ _ _ | exact Kd.N_nil _ _ _ _ _ | exact Kd.V_nil _ _ _ _ _ | exact Kd.Q_nil _ _ _ _ _ | exact Kd.S_nil _ _ _ _ _⟩, ⟨by repeat (first | (with_reducible first | exact HB.out | apply below_alloc | apply pw_below_drewN | apply below_drew1) | exact HB.out)⟩⟩
        case round =>
         clear H'
         try clear c1
         try clear p1
         try clear q1
         try clear hx1
         try clear p2
         try clear c4
         try clear c4b0
         try clear c5
         try clear c6
         try clear c6b0
         try clear p6
         try clear c7
         try clear c7b0
         try clear c8
         try clear c8b0
         try clear c9
         try clear c9b0
         try clear c11
         try clear c11b0
         try clear c12
         try clear c12b0
         try clear c12b1
         try clear hx130_0
         try clear p130
         try clear p2
         try clear q130
         obtain ⟨x1_3, x8_3, HA, HK3, HO_1, HO_8, HB⟩ := hrel
         cases gk with
         | zero => exact absurd HA.out (by simp [hybrid_Write.l1])
         | succ k3 =>
          have H := HA.out
          clear HA
          simp only [hybrid_Write.l1] at H
          by_cases c13 : (x1_3.length : Int) > 0
          ·rw [if_pos c13] at H
           have c13b0 : decide (0 < (x1_3.length : Int)) = true := decide_eq_true c13
           have c13b1 : decide (0 < x1_3.length) = true := decide_eq_true (by omega)
           clear c13
           replace H := Option.bind_eq_some_iff.mp H
           obtain ⟨t132, A140, H⟩ := H
           replace H : (if t132 ≥ 8 then ((bits_Varint.f k3 (IntKind.u64.wrap (wrap64 (2 * t132)))).bind fun t133 => (if x8_3.length + t133.length < 140737488355328 then ((some (x8_3 ++ t133 : List Int)).bind fun y136 => (if 0 < (x1_3.length : Int) then ((bits_Little.f k3 (IntKind.u64.wrap (rd x1_3 0)) (wrap64 (Int.tdiv (wrap64 (a0 + 7)) 8))).bind fun bt140 => (if y136.length + bt140.1.length < 140737488355328 then (if 0 ≤ t132 then (if t132 ≤ (x1_3.length : Int) then (hybrid_Write.l1 k3 a0 (x1_3.drop (t132 : Int).toNat) (y136 ++ bt140.1)) else (none)) else (none)) else (none))) else (none))) else (none))) else ((hybrid_packs.f k3 x1_3).bind fun t152 => (if 0 ≤ (wrap64 ((wrap64 (Int.tdiv (wrap64 (t152 + 7)) 8)) * 8)) then (if (wrap64 ((wrap64 (Int.tdiv (wrap64 (t152 + 7)) 8)) * 8) : Int).toNat ≤ 35184372088832 then (if 0 ≤ t152 then (if t152 ≤ (x1_3.length : Int) then ((some (x1_3.take (t152 : Int).toNat : List Int)).bind fun y156 => (hybrid_Write.l2 k3 a0 x1_3 x8_3 t152 (List.replicate (wrap64 ((wrap64 (Int.tdiv (wrap64 (t152 + 7)) 8)) * 8) : Int).toNat 0) y156 (y156.length : Int) 0)) else (none)) else (none)) else (none)) else (none)))) = some (r1, r2) := H
           have A14 := Aside0.mk A140
           clear A140
           by_cases c15 : t132 ≥ 8
           ·rw [if_pos c15] at H
            have c15b0 : decide (8 ≤ t132) = true := decide_eq_true c15
            clear c15
            replace H := Option.bind_eq_some_iff.mp H
            obtain ⟨t133, A160, H⟩ := H
            replace H : (if x8_3.length + t133.length < 140737488355328 then ((some (x8_3 ++ t133 : List Int)).bind fun y136 => (if 0 < (x1_3.length : Int) then ((bits_Little.f k3 (IntKind.u64.wrap (rd x1_3 0)) (wrap64 (Int.tdiv (wrap64 (a0 + 7)) 8))).bind fun bt140 => (if y136.length + bt140.1.length < 140737488355328 then (if 0 ≤ t132 then (if t132 ≤ (x1_3.length : Int) then (hybrid_Write.l1 k3 a0 (x1_3.drop (t132 : Int).toNat) (y136 ++ bt140.1)) else (none)) else (none)) else (none))) else (none))) else (none)) = some (r1, r2) := H
            have A16 := Aside0.mk A160
            clear A160
            by_cases c17 : x8_3.length + t133.length < 140737488355328
            ·rw [if_pos c17] at H
             have LMc17 := Aside0.mk c17
             clear c17
             obtain ⟨y136, hy136⟩ : ∃ y_ : List Int, y_ = (x8_3 ++ t133) := ⟨_, rfl⟩
             replace H : (if 0 < (x1_3.length : Int) then ((bits_Little.f k3 (IntKind.u64.wrap (rd x1_3 0)) (wrap64 (Int.tdiv (wrap64 (a0 + 7)) 8))).bind fun bt140 => (if y136.length + bt140.1.length < 140737488355328 then (if 0 ≤ t132 then (if t132 ≤ (x1_3.length : Int) then (hybrid_Write.l1 k3 a0 (x1_3.drop (t132 : Int).toNat) (y136 ++ bt140.1)) else (none)) else (none)) else (none))) else (none)) = some (r1, r2) := by first | (rw [hy136]; with_reducible exact H) | (have H2_ := (Option.bind_some _ _).symm.trans H; rw [hy136]; with_reducible exact H2_) | (have H2_ := (Option.bind_some _ _).symm.trans H; with_reducible exact H2_) | with_reducible exact H | (rw [hy136]; exact H) | exact H
             have Ny136 := Aside0.mk hy136
             clear hy136
             by_cases c18 : 0 < (x1_3.length : Int)
             ·rw [if_pos c18] at H
              have c18b0 : decide (0 < (x1_3.length : Int)) = true := decide_eq_true c18
              have c18b1 : decide (0 < x1_3.length) = true := decide_eq_true (by omega)
              clear c18
              replace H := Option.bind_eq_some_iff.mp H
              obtain ⟨⟨t140, t141⟩, A190, H⟩ := H
              replace H : (if y136.length + t140.length < 140737488355328 then (if 0 ≤ t132 then (if t132 ≤ (x1_3.length : Int) then (hybrid_Write.l1 k3 a0 (x1_3.drop (t132 : Int).toNat) (y136 ++ t140)) else (none)) else (none)) else (none)) = some (r1, r2) := H
              have A19 := Aside0.mk A190
              clear A190
              by_cases c20 : y136.length + t140.length < 140737488355328
              ·rw [if_pos c20] at H
               have LMc20 := Aside0.mk c20
               clear c20
               obtain ⟨y144, hy144⟩ : ∃ y_ : List Int, y_ = (y136 ++ t140) := ⟨_, rfl⟩
               replace H : (if 0 ≤ t132 then (if t132 ≤ (x1_3.length : Int) then (hybrid_Write.l1 k3 a0 (x1_3.drop (t132 : Int).toNat) y144) else (none)) else (none)) = some (r1, r2) := by first | (rw [hy144]; with_reducible exact H) | (have H2_ := (Option.bind_some _ _).symm.trans H; rw [hy144]; with_reducible exact H2_) | (have H2_ := (Option.bind_some _ _).symm.trans H; with_reducible exact H2_) | with_reducible exact H | (rw [hy144]; exact H) | exact H
               have Ny144 := Aside0.mk hy144
               clear hy144
               by_cases c21 : 0 ≤ t132
               ·rw [if_pos c21] at H
                have c21b0 := eq_true c21
                have c21b1 : decide (0 ≤ t132) = true := decide_eq_true c21
                clear c21
                by_cases c22 : t132 ≤ (x1_3.length : Int)
                ·rw [if_pos c22] at H
                 have c22b0 := eq_true c22
                 have c22b1 : decide (t132 ≤ (x1_3.length : Int)) = true := decide_eq_true c22
                 clear c22
                 obtain ⟨y147, hy147⟩ : ∃ y_ : List Int, y_ = (x1_3.drop (t132 : Int).toNat) := ⟨_, rfl⟩
                 replace H : (hybrid_Write.l1 k3 a0 y147 y144) = some (r1, r2) := by first | (rw [hy147]; with_reducible exact H) | (have H2_ := (Option.bind_some _ _).symm.trans H; rw [hy147]; with_reducible exact H2_) | (have H2_ := (Option.bind_some _ _).symm.trans H; with_reducible exact H2_) | with_reducible exact H | (rw [hy147]; exact H) | exact H
                 have Ny147 := Aside0.mk hy147
                 clear hy147
                 have H' := Aside0.mk H
                 clear H
                 obtain ⟨Ao23, co23, eo23⟩ := Kd.V_slice HO_1.out
                 subst eo23
                 go_wp2_with (first | ((with_reducible refine gate_callee (f := 37) rfl ?_); refine goesL_ (some 46) rfl rfl Try.func37 (by kernel_rfl) rfl #[.slice Ao23 x1_3.length co23] rfl (by (try simp only [List.map_toArray, List.map_cons, List.map_nil]); first | done | rfl | (simp only [List.length_drop, List.length_take]; rfl)) ?_; (with_reducible refine (hybrid_same.calls k3 _ _ x1_3 t132 _ ?side1 ?side2 A14.out).mono ?_); (case side1 => repeat (first | exact (Kd.V_reads' HO_1.out).2.2 | (with_reducible refine Kd.C_alloc ?_ _) | (with_reducible refine Kd.C_drewN ?_ _) | (with_reducible refine Kd.C_drew ?_))); (case side2 => exact (Kd.V_reads' HO_1.out).2.1); rintro e w' ⟨rfl, ⟨nd, rfl⟩⟩; refine ⟨_, rfl, ?_⟩) | ((with_reducible refine gate_callee (f := 38) rfl ?_); refine goesL_ (some 53) rfl rfl Try.func38 (by kernel_rfl) rfl #[.int .u64 (IntKind.u64.wrap (wrap64 (2 * t132)))] rfl (by (try simp only [List.map_toArray, List.map_cons, List.map_nil]); first | done | rfl | (simp only [List.length_drop, List.length_take]; rfl)) ?_; (with_reducible refine (bits_Varint.calls k3 (IntKind.u64.wrap (wrap64 (2 * t132))) t133 _ A16.out).mono ?_); rintro e w24 ⟨v134, rfl, ho0, hb⟩; refine ⟨_, rfl, ?_⟩; have n0_ := Aside0.mk (Kd.V_elder' (by (with_reducible repeat (first | apply Kd.V_alloc | apply Kd.V_drewN | apply Kd.V_drew)); exact HO_1.out) (Kd.R_base ho0) hb); have n1_ := Aside0.mk (Kd.R_elder' (by (with_reducible repeat (first | apply Kd.R_alloc | apply Kd.R_drewN | apply Kd.R_drew)); exact HO_8.out) (Kd.R_base ho0) hb); have n2_ := Aside0.mk (Kd.R_lower (Kd.R_new' (Kd.R_newM (M := fun k_ => (w.heap.size ≤ k_)) ho0 (below_size (by repeat (first | (with_reducible first | exact HB.out | apply below_alloc | apply pw_below_drewN | apply below_drew1) | exact HB.out))) (fun k_ h_ => h_)) (Kd.R_lt (by (with_reducible repeat (first | apply Kd.R_alloc | apply Kd.R_drewN | apply Kd.R_drew)); exact HO_8.out))) (below_size (by repeat (first | (with_reducible first | exact HB.out | apply below_alloc | apply pw_below_drewN | apply below_drew1) | exact HB.out)))); have n3_ := Aside0.mk (below_step (by repeat (first | (with_reducible first | exact HB.out | apply below_alloc | apply pw_below_drewN | apply below_drew1) | exact HB.out)) hb); clear HO_1; clear HO_8; clear HB; have HO_1 := n0_; have HO_8 := n1_; have HO135 := n2_; have HB := n3_; clear n0_ n1_ n2_ n3_; (try clear hb); (try clear hb2); (try clear hk); (try clear hi); (try clear ho0); obtain ⟨Ao26, co26, eo26⟩ := Kd.R_slice HO135.out; subst eo26) | ((with_reducible refine gate_builtin (b := .append) (xs := #[.tmp 49, .tmp 53]) rfl ?_); at_builtin; refine Kd.R_append_rows (Kd.int .u8) (w0 := w) w.heap.size rfl (.tmp 49) (.tmp 53) 37 5 (.int .u8 0) 1 rfl Try.underlying37 info5 rfl (by decide) (by omega) u8 x8_3 t133 _ _ _ (fun k_ => (w.heap.size ≤ k_) ∧ some k_ ≠ (.slice Ao26 t133.length co26 : Value).ownBlock) (fun _ => False) rfl rfl ?aO ?aR (fun _ _ h => h) (fun _ h => h.elim) ?aF ?aB ?aS ?aL ?_; (case aR => repeat (first | exact (Kd.R_reads' HO135.out).2.2 | (with_reducible refine Kd.C_alloc ?_ _) | (with_reducible refine Kd.C_drewN ?_ _) | (with_reducible refine Kd.C_drew ?_))); (case aB => exact (by repeat (first | (with_reducible first | exact HB.out | apply below_alloc | apply pw_below_drewN | apply below_drew1) | exact HB.out))); (case aF => exact (fun k_ hk => ⟨(Nat.le_trans (below_size (by repeat (first | (with_reducible first | exact HB.out | apply below_alloc | apply pw_below_drewN | apply below_drew1) | exact HB.out))) hk), Kd.fresh' (Kd.R_lt (by (with_reducible repeat (first | apply Kd.R_alloc | apply Kd.R_drewN | apply Kd.R_drew)); exact HO135.out)) k_ hk⟩)); (case aO => exact (by (with_reducible repeat (first | apply Kd.R_alloc | apply Kd.R_drewN | apply Kd.R_drew)); exact HO_8.out)); (case aS => exact (below_size (by repeat (first | (with_reducible first | exact HB.out | apply below_alloc | apply pw_below_drewN | apply below_drew1) | exact HB.out)))); (case aL => have := LMc17.out; omega); intro v137 w25 ho hb hg hat; rw [← Ny136.out] at ho; have n0_ := Aside0.mk (Kd.V_afterv (ok := (fun k_ => (P1_ k_ ∨ w.heap.size ≤ k_) ∧ some k_ ≠ (.slice Ao26 t133.length co26 : Value).ownBlock)) (by (with_reducible repeat (first | apply Kd.V_alloc | apply Kd.V_drewN | apply Kd.V_drew)); exact Kd.V_mono HO_1.out (fun _ hk => ⟨⟨hk.1.1, hk.2⟩, hk.1.2⟩)) hg hat); have n1_ := Aside0.mk (Kd.R_after (ok := (fun k_ => (w.heap.size ≤ k_))) (by (with_reducible repeat (first | apply Kd.R_alloc | apply Kd.R_drewN | apply Kd.R_drew)); exact Kd.R_mono HO135.out (fun _ hk => ⟨hk.1.1, hk.2⟩)) hg hat); have n2_ := Aside0.mk (hb); have n3_ := Aside0.mk (ho); clear HO_1; clear HO135; clear HB; clear HO_8; have HO_1 := n0_; have HO135 := n1_; have HB := n2_; have HO138 := n3_; clear n0_ n1_ n2_ n3_; clear ho hb hg hat; have p139 : 0 ≤ (0 : Int) := (by omega); have q139 : 0 < (x1_3.length : Int) := of_decide_eq_true (by first | (with_reducible assumption) | assumption); obtain ⟨ad139, e139, hx139_0⟩ := Kd.at_int (Kd.V_reads' HO_1.out).2.2 0 p139 q139; cases e139; have qi139 : (0 < x1_3.length) = True := eq_true (by omega); (try rw [show ((0 : Int)).toNat = 0 from rfl] at hx139_0); (try rw [Addr.add_zero'] at hx139_0); replace p139 := eq_true p139; replace q139 := eq_true q139) | ((with_reducible refine gate_callee (f := 39) rfl ?_); refine goesL_ (some 63) rfl rfl Try.func39 (by kernel_rfl) rfl #[.int .u64 (IntKind.u64.wrap (rd x1_3 0)), .int .i64 (wrap64 (Int.tdiv (wrap64 (a0 + 7)) 8))] rfl (by (try simp only [List.map_toArray, List.map_cons, List.map_nil]); first | done | rfl | (simp only [List.length_drop, List.length_take]; rfl)) ?_; (with_reducible refine (bits_Little.calls k3 (IntKind.u64.wrap (rd x1_3 0)) (wrap64 (Int.tdiv (wrap64 (a0 + 7)) 8)) t140 t141 _ A19.out).mono ?_); rintro e w27 ⟨v142, rfl, ho0, hb⟩; refine ⟨_, rfl, ?_⟩; have n0_ := Aside0.mk (Kd.V_elder' (by (with_reducible repeat (first | apply Kd.V_alloc | apply Kd.V_drewN | apply Kd.V_drew)); exact HO_1.out) (Kd.R_base ho0) hb); have n1_ := Aside0.mk (Kd.R_elder' (by (with_reducible repeat (first | apply Kd.R_alloc | apply Kd.R_drewN | apply Kd.R_drew)); exact HO135.out) (Kd.R_base ho0) hb); have n2_ := Aside0.mk (Kd.R_elder' (by (with_reducible repeat (first | apply Kd.R_alloc | apply Kd.R_drewN | apply Kd.R_drew)); exact HO138.out) (Kd.R_base ho0) hb); have n3_ := Aside0.mk (Kd.R_lower (Kd.R_new' (Kd.R_new' (Kd.R_newM (M := fun k_ => (w.heap.size ≤ k_)) ho0 (below_size (by repeat (first | (with_reducible first | exact HB.out | apply below_alloc | apply pw_below_drewN | apply below_drew1) | exact HB.out))) (fun k_ h_ => h_)) (Kd.R_lt (by (with_reducible repeat (first | apply Kd.R_alloc | apply Kd.R_drewN | apply Kd.R_drew)); exact HO135.out))) (Kd.R_lt (by (with_reducible repeat (first | apply Kd.R_alloc | apply Kd.R_drewN | apply Kd.R_drew)); exact HO138.out))) (below_size (by repeat (first | (with_reducible first | exact HB.out | apply below_alloc | apply pw_below_drewN | apply below_drew1) | exact HB.out)))); have n4_ := Aside0.mk (below_step (by repeat (first | (with_reducible first | exact HB.out | apply below_alloc | apply pw_below_drewN | apply below_drew1) | exact HB.out)) hb); clear HO_1; clear HO135; clear HO138; clear HB; have HO_1 := n0_; have HO135 := n1_; have HO138 := n2_; have HO143 := n3_; have HB := n4_; clear n0_ n1_ n2_ n3_ n4_; (try clear hb); (try clear hb2); (try clear hk); (try clear hi); (try clear ho0); obtain ⟨Ao29, co29, eo29⟩ := Kd.R_slice HO143.out; subst eo29) | ((with_reducible refine gate_builtin (b := .append) (xs := #[.tmp 66, .tmp 67]) rfl ?_); at_builtin; refine Kd.R_append_rows (Kd.int .u8) (w0 := w) w.heap.size rfl (.tmp 66) (.tmp 67) 37 5 (.int .u8 0) 1 rfl Try.underlying37 info5 rfl (by decide) (by omega) v137 y136 t140 _ _ _ (fun k_ => (w.heap.size ≤ k_) ∧ some k_ ≠ (.slice Ao26 t133.length co26 : Value).ownBlock ∧ some k_ ≠ (.slice Ao29 t140.length co29 : Value).ownBlock) (fun _ => False) rfl rfl ?aO ?aR (fun _ _ h => h) (fun _ h => h.elim) ?aF ?aB ?aS ?aL ?_; (case aR => repeat (first | exact (Kd.R_reads' HO143.out).2.2 | (with_reducible refine Kd.C_alloc ?_ _) | (with_reducible refine Kd.C_drewN ?_ _) | (with_reducible refine Kd.C_drew ?_))); (case aB => exact (by repeat (first | (with_reducible first | exact HB.out | apply below_alloc | apply pw_below_drewN | apply below_drew1) | exact HB.out))); (case aF => exact (fun k_ hk => ⟨(Nat.le_trans (below_size (by repeat (first | (with_reducible first | exact HB.out | apply below_alloc | apply pw_below_drewN | apply below_drew1) | exact HB.out))) hk), Kd.fresh' (Kd.R_lt (by (with_reducible repeat (first | apply Kd.R_alloc | apply Kd.R_drewN | apply Kd.R_drew)); exact HO135.out)) k_ hk, Kd.fresh' (Kd.R_lt (by (with_reducible repeat (first | apply Kd.R_alloc | apply Kd.R_drewN | apply Kd.R_drew)); exact HO143.out)) k_ hk⟩)); (case aO => exact (by (with_reducible repeat (first | apply Kd.R_alloc | apply Kd.R_drewN | apply Kd.R_drew)); exact Kd.R_mono HO138.out (fun _ hk => ⟨hk.1.1, ⟨hk.1.2, hk.2⟩⟩))); (case aS => exact (below_size (by repeat (first | (with_reducible first | exact HB.out | apply below_alloc | apply pw_below_drewN | apply below_drew1) | exact HB.out)))); (case aL => have := LMc20.out; omega); intro v145 w28 ho hb hg hat; rw [← Ny144.out] at ho; have n0_ := Aside0.mk (Kd.V_afterv (ok := (fun k_ => (P1_ k_ ∨ w.heap.size ≤ k_) ∧ some k_ ≠ (.slice Ao26 t133.length co26 : Value).ownBlock ∧ some k_ ≠ (.slice Ao29 t140.length co29 : Value).ownBlock)) (by (with_reducible repeat (first | apply Kd.V_alloc | apply Kd.V_drewN | apply Kd.V_drew)); exact Kd.V_mono HO_1.out (fun _ hk => ⟨⟨hk.1.1.1, ⟨hk.1.1.2, hk.2⟩⟩, hk.1.2⟩)) hg hat); have n1_ := Aside0.mk (Kd.R_after (ok := (fun k_ => (w.heap.size ≤ k_) ∧ some k_ ≠ (.slice Ao29 t140.length co29 : Value).ownBlock)) (by (with_reducible repeat (first | apply Kd.R_alloc | apply Kd.R_drewN | apply Kd.R_drew)); exact Kd.R_mono HO135.out (fun _ hk => ⟨⟨hk.1.1, hk.2⟩, hk.1.2⟩)) hg hat); have n2_ := Aside0.mk (Kd.R_after (ok := (fun k_ => (w.heap.size ≤ k_) ∧ some k_ ≠ (.slice Ao26 t133.length co26 : Value).ownBlock)) (by (with_reducible repeat (first | apply Kd.R_alloc | apply Kd.R_drewN | apply Kd.R_drew)); exact Kd.R_mono HO143.out (fun _ hk => ⟨⟨hk.1.1.1, hk.1.2⟩, hk.2⟩)) hg hat); have n3_ := Aside0.mk (hb); have n4_ := Aside0.mk (ho); clear HO_1; clear HO135; clear HO143; clear HB; clear HO138; have HO_1 := n0_; have HO135 := n1_; have HO143 := n2_; have HB := n3_; have HO146 := n4_; clear n0_ n1_ n2_ n3_ n4_; clear ho hb hg hat; have q30 : (t132 : Int) ≤ ((x1_3.length : Int) : Int) := of_decide_eq_true (by first | (with_reducible assumption) | assumption); obtain ⟨i030, hi030, _, hsz30, _⟩ := info_parts info3; have hroom30 : x1_3.length ≤ co23 := (Kd.V_reads' HO_1.out).2.1; have hC30 : Kd.F (Kd.int .i64) _ _ (some ad139) x1_3.length x1_3 := (Kd.V_at (base := w.heap.size) HO_1.out).2.2; have q030 : (0 : Int) ≤ (t132 : Int) := of_decide_eq_true (by first | (with_reducible assumption) | assumption); have hcut30 := cut_from (P := Try.prog) 23 3 .i64 Try.underlying23 hi030 1 hsz30 (some ad139) x1_3.length co23 t132 q030 q30; have hr30 := Kd.F_cut (m := (t132 : Int).toNat) (c := co23) hC30 (by omega) hroom30; obtain ⟨A30, hA30⟩ : ∃ A1, A1 = (if co23 = (t132 : Int).toNat then (some ad139) else ((some ad139) : Option Addr).map (·.add ((t132 : Int).toNat * 1))) := ⟨_, rfl⟩; obtain ⟨c30, hc30⟩ : ∃ c1, c1 = co23 - (t132 : Int).toNat := ⟨_, rfl⟩; have hy30 : y147.length = x1_3.length - (t132 : Int).toNat := (by rw [Ny147.out, List.length_drop] <;> omega); rw [show (x1_3).drop (t132 : Int).toNat = y147 from Ny147.out.symm] at hr30; replace hr30 : Kd.F (Kd.int .i64) _ _ A30 y147.length y147 := (by rw [hA30]; exact hr30); rw [← hy30, ← hA30, ← hc30] at hcut30; have HO151 := Aside0.mk (show Kd.V (Kd.int .i64) 3 _ w.heap.size _ (.slice A30 y147.length c30) y147 from Kd.V_mk (by rw [hy30, hc30]; exact Nat.sub_le_sub_right hroom30 _) hr30); have HC151 := Aside0.mk (show y147.length ≤ c30 from by rw [hy30, hc30]; exact Nat.sub_le_sub_right hroom30 _); clear hr30 hC30 hroom30 hi030 hsz30 hc30; have KY30 := Aside0.mk hy30; have KA30 := Aside0.mk hA30; clear hy30 hA30; replace q30 := eq_true q30))
                 go_roundg k3
                 case measure => have := HJ2.out; have := HK2.out; have := HK3.out; omega
                 case rel => exact ⟨(y147), (y144), H', ⟨by have := HJ2.out; have := HK2.out; have := HK3.out; omega⟩, ⟨by (with_reducible repeat (first | apply Kd.V_alloc | apply Kd.V_drewN | apply Kd.V_drew)); exact Kd.V_mono HO151.out (fun _ hk => ⟨hk.1.1, hk.2⟩)⟩, ⟨by (with_reducible repeat (first | apply Kd.R_alloc | apply Kd.R_drewN | apply Kd.R_drew)); exact Kd.R_mono HO146.out (fun _ hk => hk.1)⟩, ⟨by repeat (first | (with_reducible first | exact HB.out | apply below_alloc | apply pw_below_drewN | apply below_drew1) | exact HB.out)⟩⟩
                ·rw [if_neg c22] at H
                 exact absurd H (by simp)
               ·rw [if_neg c21] at H
                exact absurd H (by simp)
              ·rw [if_neg c20] at H
               exact absurd H (by simp)
             ·rw [if_neg c18] at H
              exact absurd H (by simp)
            ·rw [if_neg c17] at H
             exact absurd H (by simp)
           ·rw [if_neg c15] at H
            have c15b0 : decide (8 ≤ t132) = false := decide_eq_false c15
            clear c15
            replace H := Option.bind_eq_some_iff.mp H
            obtain ⟨t152, A310, H⟩ := H
            replace H : (if 0 ≤ (wrap64 ((wrap64 (Int.tdiv (wrap64 (t152 + 7)) 8)) * 8)) then (if (wrap64 ((wrap64 (Int.tdiv (wrap64 (t152 + 7)) 8)) * 8) : Int).toNat ≤ 35184372088832 then (if 0 ≤ t152 then (if t152 ≤ (x1_3.length : Int) then ((some (x1_3.take (t152 : Int).toNat : List Int)).bind fun y156 => (hybrid_Write.l2 k3 a0 x1_3 x8_3 t152 (List.replicate (wrap64 ((wrap64 (Int.tdiv (wrap64 (t152 + 7)) 8)) * 8) : Int).toNat 0) y156 (y156.length : Int) 0)) else (none)) else (none)) else (none)) else (none)) = some (r1, r2) := H
            have A31 := Aside0.mk A310
            clear A310
            obtain ⟨ji32, hji32⟩ : ∃ j_ : Int, (wrap64 ((wrap64 (Int.tdiv (wrap64 (t152 + 7)) 8)) * 8)) = j_ := ⟨_, rfl⟩
            replace H : (if 0 ≤ (ji32) then (if (ji32 : Int).toNat ≤ 35184372088832 then (if 0 ≤ t152 then (if t152 ≤ (x1_3.length : Int) then ((some (x1_3.take (t152 : Int).toNat : List Int)).bind fun y156 => (hybrid_Write.l2 k3 a0 x1_3 x8_3 t152 (List.replicate (ji32 : Int).toNat 0) y156 (y156.length : Int) 0)) else (none)) else (none)) else (none)) else (none)) = some (r1, r2) := by first | (rw [hji32] at H; exact H) | (simp only [hji32] at H ⊢; exact H)
            (try rw [hji32] at A14)
            (try rw [hji32] at A31)
            have hji32w : (IntKind.i64.wrap ((wrap64 (Int.tdiv (wrap64 (t152 + 7)) 8)) * 8)) = ji32 := (i64_w _).trans hji32
            by_cases c33 : 0 ≤ (ji32)
            ·rw [if_pos c33] at H
             have c33b0 := eq_true c33
             have c33b1 : decide (0 ≤ (ji32)) = true := decide_eq_true c33
             clear c33
             by_cases c34 : (ji32 : Int).toNat ≤ 35184372088832
             ·rw [if_pos c34] at H
              have c34b0 := eq_true c34
              have c34b1 : decide ((ji32 : Int).toNat ≤ 35184372088832) = true := decide_eq_true c34
              clear c34
              obtain ⟨y153, hy153⟩ : ∃ y_ : List Int, y_ = (List.replicate (ji32 : Int).toNat 0) := ⟨_, rfl⟩
              replace H : (if 0 ≤ t152 then (if t152 ≤ (x1_3.length : Int) then ((some (x1_3.take (t152 : Int).toNat : List Int)).bind fun y156 => (hybrid_Write.l2 k3 a0 x1_3 x8_3 t152 y153 y156 (y156.length : Int) 0)) else (none)) else (none)) = some (r1, r2) := by first | (rw [hy153]; with_reducible exact H) | (have H2_ := (Option.bind_some _ _).symm.trans H; rw [hy153]; with_reducible exact H2_) | (have H2_ := (Option.bind_some _ _).symm.trans H; with_reducible exact H2_) | with_reducible exact H | (rw [hy153]; exact H) | exact H
              have Ny153 := Aside0.mk hy153
              clear hy153
              by_cases c35 : 0 ≤ t152
              ·rw [if_pos c35] at H
               have c35b0 := eq_true c35
               have c35b1 : decide (0 ≤ t152) = true := decide_eq_true c35
               clear c35
               by_cases c36 : t152 ≤ (x1_3.length : Int)
               ·rw [if_pos c36] at H
                have c36b0 := eq_true c36
                have c36b1 : decide (t152 ≤ (x1_3.length : Int)) = true := decide_eq_true c36
                clear c36
                obtain ⟨y156, hy156⟩ : ∃ y_ : List Int, y_ = (x1_3.take (t152 : Int).toNat) := ⟨_, rfl⟩
                replace H : (hybrid_Write.l2 k3 a0 x1_3 x8_3 t152 y153 y156 (y156.length : Int) 0) = some (r1, r2) := by first | (rw [hy156]; with_reducible exact H) | (have H2_ := (Option.bind_some _ _).symm.trans H; rw [hy156]; with_reducible exact H2_) | (have H2_ := (Option.bind_some _ _).symm.trans H; with_reducible exact H2_) | with_reducible exact H | (rw [hy156]; exact H) | exact H
                have Ny156 := Aside0.mk hy156
                clear hy156
                have H' := Aside0.mk H
                clear H
                obtain ⟨Ao37, co37, eo37⟩ := Kd.V_slice HO_1.out
                subst eo37
                go_wp2_with (first | ((with_reducible refine gate_callee (f := 37) rfl ?_); refine goesL_ (some 46) rfl rfl Try.func37 (by kernel_rfl) rfl #[.slice Ao37 x1_3.length co37] rfl (by (try simp only [List.map_toArray, List.map_cons, List.map_nil]); first | done | rfl | (simp only [List.length_drop, List.length_take]; rfl)) ?_; (with_reducible refine (hybrid_same.calls k3 _ _ x1_3 t132 _ ?side1 ?side2 A14.out).mono ?_); (case side1 => repeat (first | exact (Kd.V_reads' HO_1.out).2.2 | (with_reducible refine Kd.C_alloc ?_ _) | (with_reducible refine Kd.C_drewN ?_ _) | (with_reducible refine Kd.C_drew ?_))); (case side2 => exact (Kd.V_reads' HO_1.out).2.1); rintro e w' ⟨rfl, ⟨nd, rfl⟩⟩; refine ⟨_, rfl, ?_⟩) | ((with_reducible refine gate_callee (f := 40) rfl ?_); refine goesL_ (some 73) rfl rfl Try.func40 (by kernel_rfl) rfl #[.slice Ao37 x1_3.length co37] rfl (by (try simp only [List.map_toArray, List.map_cons, List.map_nil]); first | done | rfl | (simp only [List.length_drop, List.length_take]; rfl)) ?_; (with_reducible refine (hybrid_packs.calls k3 _ _ x1_3 t152 _ ?side1 ?side2 A31.out).mono ?_); (case side1 => repeat (first | exact (Kd.V_reads' HO_1.out).2.2 | (with_reducible refine Kd.C_alloc ?_ _) | (with_reducible refine Kd.C_drewN ?_ _) | (with_reducible refine Kd.C_drew ?_))); (case side2 => exact (Kd.V_reads' HO_1.out).2.1); rintro e w' ⟨rfl, ⟨nd, rfl⟩⟩; refine ⟨_, rfl, ?_⟩) | ((with_reducible refine gate_dst (N := 78) rfl ?_); refine Kd.R_make (Kd.int .u64) _ 61 rfl (N := 78) rfl 65 _ _ rfl ji32 rfl rfl Try.underlying65 (.int .u64 0) 8 info61 rfl (by decide) (by omega) 0 (ok := fun _ => True) (okp := fun _ => True) rfl (fun _ hk => hk) trivial (of_decide_eq_true (by first | (with_reducible assumption) | assumption)) (Nat.le_trans (Nat.mul_le_mul_right _ (of_decide_eq_true (by first | (with_reducible assumption) | assumption) : ji32.toNat ≤ 35184372088832)) (by omega)) (Below.refl _ _) (Nat.le_refl _) ?_; intro v154 w38 ho39 hb hg_ hnew_; clear hg_ hnew_; (first | rw [← Ny153.out] at ho39 | (simp only [Int.reduceToNat] at ho39; rw [← Ny153.out] at ho39)); have n0_ := Aside0.mk (Kd.V_elder' (by (with_reducible repeat (first | apply Kd.V_alloc | apply Kd.V_drewN | apply Kd.V_drew)); exact HO_1.out) (Kd.R_base ho39) hb); have n1_ := Aside0.mk (Kd.R_below (by (with_reducible repeat (first | apply Kd.R_alloc | apply Kd.R_drewN | apply Kd.R_drew)); exact HO_8.out) hb); have n2_ := Aside0.mk (Kd.R_lower (Kd.R_newM (M := fun k_ => (w.heap.size ≤ k_)) ho39 (below_size (by repeat (first | (with_reducible first | exact HB.out | apply below_alloc | apply pw_below_drewN | apply below_drew1) | exact HB.out))) (fun k_ h_ => h_)) (below_size (by repeat (first | (with_reducible first | exact HB.out | apply below_alloc | apply pw_below_drewN | apply below_drew1) | exact HB.out)))); have n3_ := Aside0.mk (below_step (by repeat (first | (with_reducible first | exact HB.out | apply below_alloc | apply pw_below_drewN | apply below_drew1) | exact HB.out)) hb); clear HO_1; clear HO_8; clear HB; have HO_1 := n0_; have HO_8 := n1_; have HO155 := n2_; have HB := n3_; clear n0_ n1_ n2_ n3_; clear hb ho39; have q40 : (t152 : Int) ≤ ((x1_3.length : Int) : Int) := of_decide_eq_true (by first | (with_reducible assumption) | assumption); obtain ⟨i040, hi040, _, hsz40, _⟩ := info_parts info3; have hroom40 : x1_3.length ≤ co37 := (Kd.V_reads' HO_1.out).2.1; have hC40 : Kd.F (Kd.int .i64) _ _ Ao37 x1_3.length x1_3 := (Kd.V_at (base := w.heap.size) HO_1.out).2.2; have hcut40 := cut_to (P := Try.prog) 23 3 .i64 Try.underlying23 hi040 Ao37 x1_3.length co37 t152 (of_decide_eq_true (by first | (with_reducible assumption) | assumption)) q40 hroom40; have hr40 := Kd.F_take (m := (t152 : Int).toNat) hC40 (by omega); have hy40 : y156.length = (t152 : Int).toNat := (by rw [Ny156.out, List.length_take]; omega); rw [← Ny156.out] at hr40; rw [← hy40] at hcut40; have HO160 := Aside0.mk (show Kd.V (Kd.int .i64) 3 _ w.heap.size _ (.slice Ao37 y156.length co37) y156 from Kd.V_mk (by omega) hr40); have HC160 := Aside0.mk (show y156.length ≤ co37 from by omega); clear hr40 hC40 hroom40 hi040 hsz40; have KY40 := Aside0.mk hy40; clear hy40; replace q40 := eq_true q40))
                go_loopg [83] k3 (fun kq v83 w' => ∃ (x12_4 : List Int) (x83_4 : Int), v83 = .int .i64 x83_4 ∧ Aside0 (hybrid_Write.l2 kq a0 x1_3 x8_3 t152 x12_4 y156 (y156.length : Int) x83_4 = some (r1, r2)) ∧ Aside0 (kq ≤ k3) ∧ Aside0 (Kd.V (Kd.int .i64) 3 w' w.heap.size (fun k_ => (P1_ k_ ∨ w.heap.size ≤ k_) ∧ some k_ ≠ (u8 : Value).ownBlock ∧ some k_ ≠ (v154 : Value).ownBlock) (.slice Ao37 x1_3.length co37) x1_3) ∧ Aside0 (Kd.R (Kd.int .u8) 5 w' w.heap.size (fun k_ => (w.heap.size ≤ k_)) u8 x8_3) ∧ Aside0 (Kd.R (Kd.int .u64) 61 w' w.heap.size (fun k_ => (w.heap.size ≤ k_)) v154 x12_4) ∧ Aside0 (Kd.V (Kd.int .i64) 3 w' w.heap.size (fun k_ => (P1_ k_ ∨ w.heap.size ≤ k_) ∧ some k_ ≠ (u8 : Value).ownBlock ∧ some k_ ≠ (v154 : Value).ownBlock) (.slice Ao37 y156.length co37) y156) ∧ Aside0 (Below w.heap.size w w'))
                case atStart => exact ⟨(y153), (0), (by first | rfl | (simp; done) | (simp [*]; done)), H', ⟨Nat.le_refl _⟩, ⟨by (with_reducible repeat (first | apply Kd.V_alloc | apply Kd.V_drewN | apply Kd.V_drew)); exact Kd.V_mono HO_1.out (fun _ hk => ⟨hk.1.1, ⟨hk.1.2, hk.2⟩⟩)⟩, ⟨by (with_reducible repeat (first | apply Kd.R_alloc | apply Kd.R_drewN | apply Kd.R_drew)); exact HO_8.out⟩, ⟨by (with_reducible repeat (first | apply Kd.R_alloc | apply Kd.R_drewN | apply Kd.R_drew)); exact Kd.R_mono HO155.out (fun _ hk => hk.1)⟩, ⟨by (with_reducible repeat (first | apply Kd.V_alloc | apply Kd.V_drewN | apply Kd.V_drew)); exact Kd.V_mono HO160.out (fun _ hk => ⟨hk.1.1, ⟨hk.1.2, hk.2⟩⟩)⟩, ⟨by repeat (first | (with_reducible first | exact HB.out | apply below_alloc | apply pw_below_drewN | apply below_drew1) | exact HB.out)⟩⟩
                case round =>
                 clear H'
                 try clear c1
                 try clear p1
                 try clear q1
                 try clear hx1
                 try clear qi1
                 try clear c2
                 try clear p2
                 try clear c3
                 try clear q3
                 try clear c4
                 try clear c4b0
                 try clear q4
                 try clear c5
                 try clear c6
                 try clear c6b0
                 try clear p6
                 try clear c7
                 try clear c7b0
                 try clear c8
                 try clear c8b0
                 try clear c9
                 try clear c9b0
                 try clear c11
                 try clear c11b0
                 try clear c12
                 try clear c12b0
                 try clear c12b1
                 try clear c13
                 try clear c13b0
                 try clear c13b1
                 try clear p13
                 try clear q13
                 try clear hx13
                 try clear qi13
                 try clear c15
                 try clear c15b0
                 try clear c17
                 try clear c18
                 try clear c18b0
                 try clear c18b1
                 try clear c20
                 try clear c21
                 try clear c21b0
                 try clear c21b1
                 try clear c22
                 try clear c22b0
                 try clear c22b1
                 try clear c30
                 try clear q30
                 try clear c33
                 try clear c33b0
                 try clear c33b1
                 try clear c34
                 try clear c34b0
                 try clear c34b1
                 try clear c35
                 try clear c35b0
                 try clear c35b1
                 try clear c36
                 try clear c36b0
                 try clear c36b1
                 try clear c37
                 try clear c38
                 try clear c39
                 try clear c40
                 try clear q40
                 try clear hx130_0
                 try clear hx139_0
                 try clear p1
                 try clear p130
                 try clear p139
                 try clear p2
                 try clear p6
                 try clear q030
                 try clear q1
                 try clear q130
                 try clear q139
                 try clear q30
                 try clear q40
                 obtain ⟨x12_4, x83_4, rfl, HA, HK4, HO_1, HO_8, HO_12, HO_81, HB⟩ := hrel
                 cases gk with
                 | zero => exact absurd HA.out (by simp [hybrid_Write.l2])
                 | succ k4 =>
                  have H := HA.out
                  clear HA
                  simp only [hybrid_Write.l2] at H
                  by_cases c41 : x83_4 < (y156.length : Int)
                  ·rw [if_pos c41] at H
                   have c41b0 : decide (x83_4 < (y156.length : Int)) = true := decide_eq_true c41
                   clear c41
                   by_cases c42 : 0 ≤ x83_4
                   ·rw [if_pos c42] at H
                    have c42b0 : decide (0 ≤ x83_4) = true := decide_eq_true c42
                    clear c42
                    by_cases c43 : x83_4 < (y156.length : Int)
                    ·rw [if_pos c43] at H
                     have c43b0 : decide (x83_4 < (y156.length : Int)) = true := decide_eq_true c43
                     clear c43
                     by_cases c44 : x83_4 < (x12_4.length : Int)
                     ·rw [if_pos c44] at H
                      have c44b0 : decide (x83_4 < (x12_4.length : Int)) = true := decide_eq_true c44
                      clear c44
                      obtain ⟨y162, hy162⟩ : ∃ y_ : List Int, y_ = (x12_4.set (x83_4 : Int).toNat (IntKind.u64.wrap (rd y156 x83_4))) := ⟨_, rfl⟩
                      replace H : (hybrid_Write.l2 k4 a0 x1_3 x8_3 t152 y162 y156 (y156.length : Int) (wrap64 (x83_4 + 1))) = some (r1, r2) := by first | (rw [hy162]; with_reducible exact H) | (have H2_ := (Option.bind_some _ _).symm.trans H; rw [hy162]; with_reducible exact H2_) | (have H2_ := (Option.bind_some _ _).symm.trans H; with_reducible exact H2_) | with_reducible exact H | (rw [hy162]; exact H) | exact H
                      have Ny162 := Aside0.mk hy162
                      clear hy162
                      have H' := Aside0.mk H
                      clear H
                      have p161 : 0 ≤ (x83_4 : Int) := of_decide_eq_true (by first | (with_reducible assumption) | assumption)
                      have q161 : x83_4 < (y156.length : Int) := of_decide_eq_true (by first | (with_reducible assumption) | assumption)
                      obtain ⟨ad161, e161, hx161_0⟩ := Kd.at_int (Kd.V_reads' HO_81.out).2.2 x83_4 p161 q161
                      cases e161
                      replace p161 := eq_true p161
                      replace q161 := eq_true q161
                      have p45 : 0 ≤ (x83_4 : Int) := of_decide_eq_true (by first | (with_reducible assumption) | assumption)
                      have q45 : (x83_4 : Int) < ((x12_4.length : Int) : Int) := of_decide_eq_true (by first | (with_reducible assumption) | assumption)
                      obtain ⟨go45, co45, eo45, gb45, gl45, cl45, HG45⟩ := Kd.R_form HO_12.out (by omega)
                      (first | cases eo45 | (injection eo45 with ea_ en_ ec_; (first | subst ea_ | (injection ea_ with ea_; subst ea_)); subst ec_; clear en_))
                      have GB45 := Aside0.mk gb45
                      have GG45 := Aside0.mk HG45
                      clear gb45 gl45 HG45
                      obtain ⟨hx45_0, hf45_0⟩ := Kd.R_celln 0 HO_12.out (x83_4 : Int) p45 q45
                      replace p45 := eq_true p45
                      replace q45 := eq_true q45
                      have HP46 := Kd.R_putg HO_12.out (x83_4 : Int) (IntKind.u64.wrap (rd y156 x83_4))
                      go_wp2_with (first | ((with_reducible refine gate_store (t := 61) (p := 92) rfl ?_); refine store_event (t := 61) (p := 92) (v := ?vo_w47) (w1 := (wr.setCell ⟨go45, (x83_4 : Int).toNat, none⟩ (.int .u64 (IntKind.u64.wrap (rd y156 x83_4))))) ?hg ?ho ?hn ?hr ?_; (case ho => rfl); (case hg => rfl); (case hn => rfl); (case hr => first | (go_simp; done) | (go_simp; rfl)); intro w47 hw; have hg : wr.grownBy w47 (some go45) := (by rw [hw]; exact HP46.2); have hp_ : Kd.R (Kd.int .u64) 61 w47 w.heap.size (fun k_ => (w.heap.size ≤ k_)) (.slice (some ⟨go45, 0, none⟩) x12_4.length co45) y162 := (by rw [hw, Ny162.out]; exact HP46.1); clear HP46; have n0_ := Aside0.mk (Kd.V_afterv (v := (.slice (some ⟨go45, 0, none⟩) x12_4.length co45)) (v1 := (.slice (some ⟨go45, 0, none⟩) x12_4.length co45)) (ok := (fun k_ => (P1_ k_ ∨ w.heap.size ≤ k_) ∧ some k_ ≠ (u8 : Value).ownBlock)) (by (with_reducible repeat (first | apply Kd.V_alloc | apply Kd.V_drewN | apply Kd.V_drew)); exact Kd.V_mono HO_1.out (fun _ hk => ⟨⟨hk.1, hk.2.1⟩, hk.2.2⟩)) hg (.inl rfl)); have n1_ := Aside0.mk (Kd.R_over' (v := (.slice (some ⟨go45, 0, none⟩) x12_4.length co45)) (by (with_reducible repeat (first | apply Kd.R_alloc | apply Kd.R_drewN | apply Kd.R_drew)); exact HO_8.out) (Kd.R_typed HO_12.out) (by decide) hg); have n2_ := Aside0.mk (hp_); have n3_ := Aside0.mk (Kd.V_afterv (v := (.slice (some ⟨go45, 0, none⟩) x12_4.length co45)) (v1 := (.slice (some ⟨go45, 0, none⟩) x12_4.length co45)) (ok := (fun k_ => (P1_ k_ ∨ w.heap.size ≤ k_) ∧ some k_ ≠ (u8 : Value).ownBlock)) (by (with_reducible repeat (first | apply Kd.V_alloc | apply Kd.V_drewN | apply Kd.V_drew)); exact Kd.V_mono HO_81.out (fun _ hk => ⟨⟨hk.1, hk.2.1⟩, hk.2.2⟩)) hg (.inl rfl)); have n4_ := Aside0.mk ((by rw [hw]; exact below_set (HB.out) GB45.out : Below w.heap.size w w47)); clear HO_1; clear HO_8; clear HO_12; clear HO_81; clear HB; have HO_1 := n0_; have HO_8 := n1_; have HO_12 := n2_; have HO_81 := n3_; have HB := n4_; clear n0_ n1_ n2_ n3_ n4_; clear hg hw hp_))
                      go_roundg k4
                      case measure => have := HJ2.out; have := HK2.out; have := HK3.out; have := HK4.out; omega
                      case rel => exact ⟨(y162), (wrap64 (x83_4 + 1)), (by first | rfl | (simp; done) | (simp [*]; done)), H', ⟨by have := HJ2.out; have := HK2.out; have := HK3.out; have := HK4.out; omega⟩, ⟨by (with_reducible repeat (first | apply Kd.V_alloc | apply Kd.V_drewN | apply Kd.V_drew)); exact Kd.V_mono HO_1.out (fun _ hk => ⟨hk.1.1, ⟨hk.1.2, hk.2⟩⟩)⟩, ⟨by (with_reducible repeat (first | apply Kd.R_alloc | apply Kd.R_drewN | apply Kd.R_drew)); exact HO_8.out⟩, ⟨by (with_reducible repeat (first | apply Kd.R_alloc | apply Kd.R_drewN | apply Kd.R_drew)); exact HO_12.out⟩, ⟨by (with_reducible repeat (first | apply Kd.V_alloc | apply Kd.V_drewN | apply Kd.V_drew)); exact Kd.V_mono HO_81.out (fun _ hk => ⟨hk.1.1, ⟨hk.1.2, hk.2⟩⟩)⟩, ⟨by repeat (first | (with_reducible first | exact HB.out | apply below_alloc | apply pw_below_drewN | apply below_drew1) | exact HB.out)⟩⟩
                     ·rw [if_neg c44] at H
                      exact absurd H (by simp)
                    ·rw [if_neg c43] at H
                     exact absurd H (by simp)
                   ·rw [if_neg c42] at H
                    exact absurd H (by simp)
                  ·rw [if_neg c41] at H
                   have c41b0 : decide (x83_4 < (y156.length : Int)) = false := decide_eq_false c41
                   clear c41
                   replace H := Option.bind_eq_some_iff.mp H
                   obtain ⟨t163, A480, H⟩ := H
                   replace H : (if x8_3.length + t163.length < 140737488355328 then ((some (x8_3 ++ t163 : List Int)).bind fun y166 => ((bits_Pack.f k4 a0 x12_4).bind fun bt169 => (if y166.length + bt169.1.length < 140737488355328 then (if 0 ≤ t152 then (if t152 ≤ (x1_3.length : Int) then (hybrid_Write.l1 k4 a0 (x1_3.drop (t152 : Int).toNat) (y166 ++ bt169.1)) else (none)) else (none)) else (none)))) else (none)) = some (r1, r2) := H
                   have A48 := Aside0.mk A480
                   clear A480
                   by_cases c49 : x8_3.length + t163.length < 140737488355328
                   ·rw [if_pos c49] at H
                    have LMc49 := Aside0.mk c49
                    clear c49
                    obtain ⟨y166, hy166⟩ : ∃ y_ : List Int, y_ = (x8_3 ++ t163) := ⟨_, rfl⟩
                    replace H : ((bits_Pack.f k4 a0 x12_4).bind fun bt169 => (if y166.length + bt169.1.length < 140737488355328 then (if 0 ≤ t152 then (if t152 ≤ (x1_3.length : Int) then (hybrid_Write.l1 k4 a0 (x1_3.drop (t152 : Int).toNat) (y166 ++ bt169.1)) else (none)) else (none)) else (none))) = some (r1, r2) := by first | (rw [hy166]; with_reducible exact H) | (have H2_ := (Option.bind_some _ _).symm.trans H; rw [hy166]; with_reducible exact H2_) | (have H2_ := (Option.bind_some _ _).symm.trans H; with_reducible exact H2_) | with_reducible exact H | (rw [hy166]; exact H) | exact H
                    have Ny166 := Aside0.mk hy166
                    clear hy166
                    replace H := Option.bind_eq_some_iff.mp H
                    obtain ⟨⟨t169, t170⟩, A500, H⟩ := H
                    replace H : (if y166.length + t169.length < 140737488355328 then (if 0 ≤ t152 then (if t152 ≤ (x1_3.length : Int) then (hybrid_Write.l1 k4 a0 (x1_3.drop (t152 : Int).toNat) (y166 ++ t169)) else (none)) else (none)) else (none)) = some (r1, r2) := H
                    have A50 := Aside0.mk A500
                    clear A500
                    by_cases c51 : y166.length + t169.length < 140737488355328
                    ·rw [if_pos c51] at H
                     have LMc51 := Aside0.mk c51
                     clear c51
                     obtain ⟨y173, hy173⟩ : ∃ y_ : List Int, y_ = (y166 ++ t169) := ⟨_, rfl⟩
                     replace H : (if 0 ≤ t152 then (if t152 ≤ (x1_3.length : Int) then (hybrid_Write.l1 k4 a0 (x1_3.drop (t152 : Int).toNat) y173) else (none)) else (none)) = some (r1, r2) := by first | (rw [hy173]; with_reducible exact H) | (have H2_ := (Option.bind_some _ _).symm.trans H; rw [hy173]; with_reducible exact H2_) | (have H2_ := (Option.bind_some _ _).symm.trans H; with_reducible exact H2_) | with_reducible exact H | (rw [hy173]; exact H) | exact H
                     have Ny173 := Aside0.mk hy173
                     clear hy173
                     by_cases c52 : 0 ≤ t152
                     ·rw [if_pos c52] at H
                      have c52b0 := eq_true c52
                      have c52b1 : decide (0 ≤ t152) = true := decide_eq_true c52
                      clear c52
                      by_cases c53 : t152 ≤ (x1_3.length : Int)
                      ·rw [if_pos c53] at H
                       have c53b0 := eq_true c53
                       have c53b1 : decide (t152 ≤ (x1_3.length : Int)) = true := decide_eq_true c53
                       clear c53
                       obtain ⟨y176, hy176⟩ : ∃ y_ : List Int, y_ = (x1_3.drop (t152 : Int).toNat) := ⟨_, rfl⟩
                       replace H : (hybrid_Write.l1 k4 a0 y176 y173) = some (r1, r2) := by first | (rw [hy176]; with_reducible exact H) | (have H2_ := (Option.bind_some _ _).symm.trans H; rw [hy176]; with_reducible exact H2_) | (have H2_ := (Option.bind_some _ _).symm.trans H; with_reducible exact H2_) | with_reducible exact H | (rw [hy176]; exact H) | exact H
                       have Ny176 := Aside0.mk hy176
                       clear hy176
                       have H' := Aside0.mk H
                       clear H
                       obtain ⟨Ao54, co54, eo54⟩ := Kd.R_slice HO_12.out
                       subst eo54
                       go_wp2_with (first | ((with_reducible refine gate_callee (f := 38) rfl ?_); refine goesL_ (some 101) rfl rfl Try.func38 (by kernel_rfl) rfl #[.int .u64 (IntKind.u64.wrap (wrap64 ((wrap64 ((wrap64 ((x12_4.length : Int) / 8)) * 2)) + 1)))] rfl (by (try simp only [List.map_toArray, List.map_cons, List.map_nil]); first | done | rfl | (simp only [List.length_drop, List.length_take]; rfl)) ?_; (with_reducible refine (bits_Varint.calls k4 (IntKind.u64.wrap (wrap64 ((wrap64 ((wrap64 ((x12_4.length : Int) / 8)) * 2)) + 1))) t163 _ A48.out).mono ?_); rintro e w55 ⟨v164, rfl, ho0, hb⟩; refine ⟨_, rfl, ?_⟩; have n0_ := Aside0.mk (Kd.V_elder' (by (with_reducible repeat (first | apply Kd.V_alloc | apply Kd.V_drewN | apply Kd.V_drew)); exact HO_1.out) (Kd.R_base ho0) hb); have n1_ := Aside0.mk (Kd.R_elder' (by (with_reducible repeat (first | apply Kd.R_alloc | apply Kd.R_drewN | apply Kd.R_drew)); exact HO_8.out) (Kd.R_base ho0) hb); have n2_ := Aside0.mk (Kd.R_below (by (with_reducible repeat (first | apply Kd.R_alloc | apply Kd.R_drewN | apply Kd.R_drew)); exact HO_12.out) hb); have n3_ := Aside0.mk (Kd.V_elder' (by (with_reducible repeat (first | apply Kd.V_alloc | apply Kd.V_drewN | apply Kd.V_drew)); exact HO_81.out) (Kd.R_base ho0) hb); have n4_ := Aside0.mk (Kd.R_lower (Kd.R_new' (Kd.R_newM (M := fun k_ => (w.heap.size ≤ k_)) ho0 (below_size (by repeat (first | (with_reducible first | exact HB.out | apply below_alloc | apply pw_below_drewN | apply below_drew1) | exact HB.out))) (fun k_ h_ => h_)) (Kd.R_lt (by (with_reducible repeat (first | apply Kd.R_alloc | apply Kd.R_drewN | apply Kd.R_drew)); exact HO_8.out))) (below_size (by repeat (first | (with_reducible first | exact HB.out | apply below_alloc | apply pw_below_drewN | apply below_drew1) | exact HB.out)))); have n5_ := Aside0.mk (below_step (by repeat (first | (with_reducible first | exact HB.out | apply below_alloc | apply pw_below_drewN | apply below_drew1) | exact HB.out)) hb); clear HO_1; clear HO_8; clear HO_12; clear HO_81; clear HB; have HO_1 := n0_; have HO_8 := n1_; have HO_12 := n2_; have HO_81 := n3_; have HO165 := n4_; have HB := n5_; clear n0_ n1_ n2_ n3_ n4_ n5_; (try clear hb); (try clear hb2); (try clear hk); (try clear hi); (try clear ho0); obtain ⟨Ao57, co57, eo57⟩ := Kd.R_slice HO165.out; subst eo57) | ((with_reducible refine gate_builtin (b := .append) (xs := #[.tmp 94, .tmp 101]) rfl ?_); at_builtin; refine Kd.R_append_rows (Kd.int .u8) (w0 := w) w.heap.size rfl (.tmp 94) (.tmp 101) 37 5 (.int .u8 0) 1 rfl Try.underlying37 info5 rfl (by decide) (by omega) u8 x8_3 t163 _ _ _ (fun k_ => (w.heap.size ≤ k_) ∧ some k_ ≠ (.slice Ao57 t163.length co57 : Value).ownBlock) (fun _ => False) rfl rfl ?aO ?aR (fun _ _ h => h) (fun _ h => h.elim) ?aF ?aB ?aS ?aL ?_; (case aR => repeat (first | exact (Kd.R_reads' HO165.out).2.2 | (with_reducible refine Kd.C_alloc ?_ _) | (with_reducible refine Kd.C_drewN ?_ _) | (with_reducible refine Kd.C_drew ?_))); (case aB => exact (by repeat (first | (with_reducible first | exact HB.out | apply below_alloc | apply pw_below_drewN | apply below_drew1) | exact HB.out))); (case aF => exact (fun k_ hk => ⟨(Nat.le_trans (below_size (by repeat (first | (with_reducible first | exact HB.out | apply below_alloc | apply pw_below_drewN | apply below_drew1) | exact HB.out))) hk), Kd.fresh' (Kd.R_lt (by (with_reducible repeat (first | apply Kd.R_alloc | apply Kd.R_drewN | apply Kd.R_drew)); exact HO165.out)) k_ hk⟩)); (case aO => exact (by (with_reducible repeat (first | apply Kd.R_alloc | apply Kd.R_drewN | apply Kd.R_drew)); exact HO_8.out)); (case aS => exact (below_size (by repeat (first | (with_reducible first | exact HB.out | apply below_alloc | apply pw_below_drewN | apply below_drew1) | exact HB.out)))); (case aL => have := LMc49.out; omega); intro v167 w56 ho hb hg hat; rw [← Ny166.out] at ho; have n0_ := Aside0.mk (Kd.V_afterv (ok := (fun k_ => (P1_ k_ ∨ w.heap.size ≤ k_) ∧ some k_ ≠ (.slice Ao54 x12_4.length co54 : Value).ownBlock ∧ some k_ ≠ (.slice Ao57 t163.length co57 : Value).ownBlock)) (by (with_reducible repeat (first | apply Kd.V_alloc | apply Kd.V_drewN | apply Kd.V_drew)); exact Kd.V_mono HO_1.out (fun _ hk => ⟨⟨hk.1.1, ⟨hk.1.2.2, hk.2⟩⟩, hk.1.2.1⟩)) hg hat); have n1_ := Aside0.mk (Kd.R_over' (by (with_reducible repeat (first | apply Kd.R_alloc | apply Kd.R_drewN | apply Kd.R_drew)); exact HO_12.out) (Kd.R_typed (by (with_reducible repeat (first | apply Kd.R_alloc | apply Kd.R_drewN | apply Kd.R_drew)); exact HO_8.out)) (by decide) hg); have n2_ := Aside0.mk (Kd.V_afterv (ok := (fun k_ => (P1_ k_ ∨ w.heap.size ≤ k_) ∧ some k_ ≠ (.slice Ao54 x12_4.length co54 : Value).ownBlock ∧ some k_ ≠ (.slice Ao57 t163.length co57 : Value).ownBlock)) (by (with_reducible repeat (first | apply Kd.V_alloc | apply Kd.V_drewN | apply Kd.V_drew)); exact Kd.V_mono HO_81.out (fun _ hk => ⟨⟨hk.1.1, ⟨hk.1.2.2, hk.2⟩⟩, hk.1.2.1⟩)) hg hat); have n3_ := Aside0.mk (Kd.R_after (ok := (fun k_ => (w.heap.size ≤ k_))) (by (with_reducible repeat (first | apply Kd.R_alloc | apply Kd.R_drewN | apply Kd.R_drew)); exact Kd.R_mono HO165.out (fun _ hk => ⟨hk.1.1, hk.2⟩)) hg hat); have n4_ := Aside0.mk (hb); have n5_ := Aside0.mk (ho); clear HO_1; clear HO_12; clear HO_81; clear HO165; clear HB; clear HO_8; have HO_1 := n0_; have HO_12 := n1_; have HO_81 := n2_; have HO165 := n3_; have HB := n4_; have HO168 := n5_; clear n0_ n1_ n2_ n3_ n4_ n5_; clear ho hb hg hat) | ((with_reducible refine gate_callee (f := 41) rfl ?_); refine goesL_ (some 106) rfl rfl Try.func41 (by kernel_rfl) rfl #[.int .i64 a0, .slice Ao54 x12_4.length co54] rfl (by (try simp only [List.map_toArray, List.map_cons, List.map_nil]); first | done | rfl | (simp only [List.length_drop, List.length_take]; rfl)) ?_; (with_reducible refine (bits_Pack.calls k4 a0 _ _ x12_4 t169 t170 _ ?side1 ?side2 A50.out).mono ?_); (case side1 => repeat (first | exact (Kd.R_reads' HO_12.out).2.2 | (with_reducible refine Kd.C_alloc ?_ _) | (with_reducible refine Kd.C_drewN ?_ _) | (with_reducible refine Kd.C_drew ?_))); (case side2 => exact (Kd.R_reads' HO_12.out).2.1); rintro e w58 ⟨v171, rfl, ho0, hb⟩; refine ⟨_, rfl, ?_⟩; have n0_ := Aside0.mk (Kd.V_elder' (by (with_reducible repeat (first | apply Kd.V_alloc | apply Kd.V_drewN | apply Kd.V_drew)); exact HO_1.out) (Kd.R_base ho0) hb); have n1_ := Aside0.mk (Kd.R_below (by (with_reducible repeat (first | apply Kd.R_alloc | apply Kd.R_drewN | apply Kd.R_drew)); exact HO_12.out) hb); have n2_ := Aside0.mk (Kd.V_elder' (by (with_reducible repeat (first | apply Kd.V_alloc | apply Kd.V_drewN | apply Kd.V_drew)); exact HO_81.out) (Kd.R_base ho0) hb); have n3_ := Aside0.mk (Kd.R_elder' (by (with_reducible repeat (first | apply Kd.R_alloc | apply Kd.R_drewN | apply Kd.R_drew)); exact HO165.out) (Kd.R_base ho0) hb); have n4_ := Aside0.mk (Kd.R_elder' (by (with_reducible repeat (first | apply Kd.R_alloc | apply Kd.R_drewN | apply Kd.R_drew)); exact HO168.out) (Kd.R_base ho0) hb); have n5_ := Aside0.mk (Kd.R_lower (Kd.R_new' (Kd.R_new' (Kd.R_newM (M := fun k_ => (w.heap.size ≤ k_)) ho0 (below_size (by repeat (first | (with_reducible first | exact HB.out | apply below_alloc | apply pw_below_drewN | apply below_drew1) | exact HB.out))) (fun k_ h_ => h_)) (Kd.R_lt (by (with_reducible repeat (first | apply Kd.R_alloc | apply Kd.R_drewN | apply Kd.R_drew)); exact HO165.out))) (Kd.R_lt (by (with_reducible repeat (first | apply Kd.R_alloc | apply Kd.R_drewN | apply Kd.R_drew)); exact HO168.out))) (below_size (by repeat (first | (with_reducible first | exact HB.out | apply below_alloc | apply pw_below_drewN | apply below_drew1) | exact HB.out)))); have n6_ := Aside0.mk (below_step (by repeat (first | (with_reducible first | exact HB.out | apply below_alloc | apply pw_below_drewN | apply below_drew1) | exact HB.out)) hb); clear HO_1; clear HO_12; clear HO_81; clear HO165; clear HO168; clear HB; have HO_1 := n0_; have HO_12 := n1_; have HO_81 := n2_; have HO165 := n3_; have HO168 := n4_; have HO172 := n5_; have HB := n6_; clear n0_ n1_ n2_ n3_ n4_ n5_ n6_; (try clear hb); (try clear hb2); (try clear hk); (try clear hi); (try clear ho0); obtain ⟨Ao60, co60, eo60⟩ := Kd.R_slice HO172.out; subst eo60) | ((with_reducible refine gate_builtin (b := .append) (xs := #[.tmp 109, .tmp 110]) rfl ?_); at_builtin; refine Kd.R_append_rows (Kd.int .u8) (w0 := w) w.heap.size rfl (.tmp 109) (.tmp 110) 37 5 (.int .u8 0) 1 rfl Try.underlying37 info5 rfl (by decide) (by omega) v167 y166 t169 _ _ _ (fun k_ => (w.heap.size ≤ k_) ∧ some k_ ≠ (.slice Ao57 t163.length co57 : Value).ownBlock ∧ some k_ ≠ (.slice Ao60 t169.length co60 : Value).ownBlock) (fun _ => False) rfl rfl ?aO ?aR (fun _ _ h => h) (fun _ h => h.elim) ?aF ?aB ?aS ?aL ?_; (case aR => repeat (first | exact (Kd.R_reads' HO172.out).2.2 | (with_reducible refine Kd.C_alloc ?_ _) | (with_reducible refine Kd.C_drewN ?_ _) | (with_reducible refine Kd.C_drew ?_))); (case aB => exact (by repeat (first | (with_reducible first | exact HB.out | apply below_alloc | apply pw_below_drewN | apply below_drew1) | exact HB.out))); (case aF => exact (fun k_ hk => ⟨(Nat.le_trans (below_size (by repeat (first | (with_reducible first | exact HB.out | apply below_alloc | apply pw_below_drewN | apply below_drew1) | exact HB.out))) hk), Kd.fresh' (Kd.R_lt (by (with_reducible repeat (first | apply Kd.R_alloc | apply Kd.R_drewN | apply Kd.R_drew)); exact HO165.out)) k_ hk, Kd.fresh' (Kd.R_lt (by (with_reducible repeat (first | apply Kd.R_alloc | apply Kd.R_drewN | apply Kd.R_drew)); exact HO172.out)) k_ hk⟩)); (case aO => exact (by (with_reducible repeat (first | apply Kd.R_alloc | apply Kd.R_drewN | apply Kd.R_drew)); exact Kd.R_mono HO168.out (fun _ hk => ⟨hk.1.1, ⟨hk.1.2, hk.2⟩⟩))); (case aS => exact (below_size (by repeat (first | (with_reducible first | exact HB.out | apply below_alloc | apply pw_below_drewN | apply below_drew1) | exact HB.out)))); (case aL => have := LMc51.out; omega); intro v174 w59 ho hb hg hat; rw [← Ny173.out] at ho; have n0_ := Aside0.mk (Kd.V_afterv (ok := (fun k_ => (P1_ k_ ∨ w.heap.size ≤ k_) ∧ some k_ ≠ (.slice Ao54 x12_4.length co54 : Value).ownBlock ∧ some k_ ≠ (.slice Ao57 t163.length co57 : Value).ownBlock ∧ some k_ ≠ (.slice Ao60 t169.length co60 : Value).ownBlock)) (by (with_reducible repeat (first | apply Kd.V_alloc | apply Kd.V_drewN | apply Kd.V_drew)); exact Kd.V_mono HO_1.out (fun _ hk => ⟨⟨hk.1.1.1, ⟨hk.1.1.2.1, ⟨hk.1.1.2.2, hk.2⟩⟩⟩, hk.1.2⟩)) hg hat); have n1_ := Aside0.mk (Kd.R_over' (by (with_reducible repeat (first | apply Kd.R_alloc | apply Kd.R_drewN | apply Kd.R_drew)); exact HO_12.out) (Kd.R_typed (by (with_reducible repeat (first | apply Kd.R_alloc | apply Kd.R_drewN | apply Kd.R_drew)); exact HO168.out)) (by decide) hg); have n2_ := Aside0.mk (Kd.V_afterv (ok := (fun k_ => (P1_ k_ ∨ w.heap.size ≤ k_) ∧ some k_ ≠ (.slice Ao54 x12_4.length co54 : Value).ownBlock ∧ some k_ ≠ (.slice Ao57 t163.length co57 : Value).ownBlock ∧ some k_ ≠ (.slice Ao60 t169.length co60 : Value).ownBlock)) (by (with_reducible repeat (first | apply Kd.V_alloc | apply Kd.V_drewN | apply Kd.V_drew)); exact Kd.V_mono HO_81.out (fun _ hk => ⟨⟨hk.1.1.1, ⟨hk.1.1.2.1, ⟨hk.1.1.2.2, hk.2⟩⟩⟩, hk.1.2⟩)) hg hat); have n3_ := Aside0.mk (Kd.R_after (ok := (fun k_ => (w.heap.size ≤ k_) ∧ some k_ ≠ (.slice Ao60 t169.length co60 : Value).ownBlock)) (by (with_reducible repeat (first | apply Kd.R_alloc | apply Kd.R_drewN | apply Kd.R_drew)); exact Kd.R_mono HO165.out (fun _ hk => ⟨⟨hk.1.1, hk.2⟩, hk.1.2⟩)) hg hat); have n4_ := Aside0.mk (Kd.R_after (ok := (fun k_ => (w.heap.size ≤ k_) ∧ some k_ ≠ (.slice Ao57 t163.length co57 : Value).ownBlock)) (by (with_reducible repeat (first | apply Kd.R_alloc | apply Kd.R_drewN | apply Kd.R_drew)); exact Kd.R_mono HO172.out (fun _ hk => ⟨⟨hk.1.1.1, hk.1.2⟩, hk.2⟩)) hg hat); have n5_ := Aside0.mk (hb); have n6_ := Aside0.mk (ho); clear HO_1; clear HO_12; clear HO_81; clear HO165; clear HO172; clear HB; clear HO168; have HO_1 := n0_; have HO_12 := n1_; have HO_81 := n2_; have HO165 := n3_; have HO172 := n4_; have HB := n5_; have HO175 := n6_; clear n0_ n1_ n2_ n3_ n4_ n5_ n6_; clear ho hb hg hat; have q61 : (t152 : Int) ≤ ((x1_3.length : Int) : Int) := of_decide_eq_true (by first | (with_reducible assumption) | assumption); obtain ⟨i061, hi061, _, hsz61, _⟩ := info_parts info3; have hroom61 : x1_3.length ≤ co37 := (Kd.V_reads' HO_1.out).2.1; have hC61 : Kd.F (Kd.int .i64) _ _ Ao37 x1_3.length x1_3 := (Kd.V_at (base := w.heap.size) HO_1.out).2.2; have q061 : (0 : Int) ≤ (t152 : Int) := of_decide_eq_true (by first | (with_reducible assumption) | assumption); have hcut61 := cut_from (P := Try.prog) 23 3 .i64 Try.underlying23 hi061 1 hsz61 Ao37 x1_3.length co37 t152 q061 q61; have hr61 := Kd.F_cut (m := (t152 : Int).toNat) (c := co37) hC61 (by omega) hroom61; obtain ⟨A61, hA61⟩ : ∃ A1, A1 = (if co37 = (t152 : Int).toNat then Ao37 else (Ao37 : Option Addr).map (·.add ((t152 : Int).toNat * 1))) := ⟨_, rfl⟩; obtain ⟨c61, hc61⟩ : ∃ c1, c1 = co37 - (t152 : Int).toNat := ⟨_, rfl⟩; have hy61 : y176.length = x1_3.length - (t152 : Int).toNat := (by rw [Ny176.out, List.length_drop] <;> omega); rw [show (x1_3).drop (t152 : Int).toNat = y176 from Ny176.out.symm] at hr61; replace hr61 : Kd.F (Kd.int .i64) _ _ A61 y176.length y176 := (by rw [hA61]; exact hr61); rw [← hy61, ← hA61, ← hc61] at hcut61; have HO180 := Aside0.mk (show Kd.V (Kd.int .i64) 3 _ w.heap.size _ (.slice A61 y176.length c61) y176 from Kd.V_mk (by rw [hy61, hc61]; exact Nat.sub_le_sub_right hroom61 _) hr61); have HC180 := Aside0.mk (show y176.length ≤ c61 from by rw [hy61, hc61]; exact Nat.sub_le_sub_right hroom61 _); clear hr61 hC61 hroom61 hi061 hsz61 hc61; have KY61 := Aside0.mk hy61; have KA61 := Aside0.mk hA61; clear hy61 hA61; replace q61 := eq_true q61))
                       go_roundg k4
                       case measure => have := HJ2.out; have := HK2.out; have := HK3.out; have := HK4.out; omega
                       case rel => exact ⟨(y176), (y173), H', ⟨by have := HJ2.out; have := HK2.out; have := HK3.out; have := HK4.out; omega⟩, ⟨by (with_reducible repeat (first | apply Kd.V_alloc | apply Kd.V_drewN | apply Kd.V_drew)); exact Kd.V_mono HO180.out (fun _ hk => ⟨hk.1.1, hk.2⟩)⟩, ⟨by (with_reducible repeat (first | apply Kd.R_alloc | apply Kd.R_drewN | apply Kd.R_drew)); exact Kd.R_mono HO175.out (fun _ hk => hk.1)⟩, ⟨by repeat (first | (with_reducible first | exact HB.out | apply below_alloc | apply pw_below_drewN | apply below_drew1) | exact HB.out)⟩⟩
                      ·rw [if_neg c53] at H
                       exact absurd H (by simp)
                     ·rw [if_neg c52] at H
                      exact absurd H (by simp)
                    ·rw [if_neg c51] at H
                     exact absurd H (by simp)
                   ·rw [if_neg c49] at H
                    exact absurd H (by simp)
               ·rw [if_neg c36] at H
                exact absurd H (by simp)
              ·rw [if_neg c35] at H
               exact absurd H (by simp)
             ·rw [if_neg c34] at H
              exact absurd H (by simp)
            ·rw [if_neg c33] at H
             exact absurd H (by simp)
          ·rw [if_neg c13] at H
           have c13b0 : decide (0 < (x1_3.length : Int)) = false := decide_eq_false c13
           have c13b1 : decide (0 < x1_3.length) = false := decide_eq_false (by omega)
           clear c13
           by_cases c62 : (x8_3.length : Int) > 1048576
           ·rw [if_pos c62] at H
            have c62b0 : decide (1048576 < (x8_3.length : Int)) = true := decide_eq_true c62
            have c62b1 : decide (1048576 < x8_3.length) = true := decide_eq_true (by omega)
            clear c62
            simp only [Option.some.injEq, Prod.mk.injEq] at H
            obtain ⟨rfl, rfl⟩ := H
            obtain ⟨Ao63, co63, eo63⟩ := Kd.V_slice HO_1.out
            subst eo63
            obtain ⟨Ao64, co64, eo64⟩ := Kd.R_slice HO_8.out
            subst eo64
            go_wp2
            go_ret2
            exact ⟨_, by first | rfl | (simp [errW_none, errW_some] <;> rfl) | (simp [*, errW_none, errW_some] <;> rfl), by first | exact Kd.R_nil _ _ _ _ _ | exact Kd.N_nil _ _ _ _ _ | exact Kd.V_nil _ _ _ _ _ | exact Kd.Q_nil _ _ _ _ _ | exact Kd.S_nil _ _ _ _ _, by repeat (first | (with_reducible first | exact HB.out | apply below_alloc | apply pw_below_drewN | apply below_drew1) | exact HB.out)⟩
           ·rw [if_neg c62] at H
            have c62b0 : decide (1048576 < (x8_3.length : Int)) = false := decide_eq_false c62
            have c62b1 : decide (1048576 < x8_3.length) = false := decide_eq_false (by omega)
            clear c62
            simp only [Option.some.injEq, Prod.mk.injEq] at H
            obtain ⟨rfl, rfl⟩ := H
            obtain ⟨Ao65, co65, eo65⟩ := Kd.V_slice HO_1.out
            subst eo65
            obtain ⟨Ao66, co66, eo66⟩ := Kd.R_slice HO_8.out
            subst eo66
            go_wp2
            go_ret2
            exact ⟨_, by first | rfl | (simp [errW_none, errW_some] <;> rfl) | (simp [*, errW_none, errW_some] <;> rfl), by (with_reducible repeat (first | apply Kd.R_alloc | apply Kd.R_drewN | apply Kd.R_drew)); exact HO_8.out, by repeat (first | (with_reducible first | exact HB.out | apply below_alloc | apply pw_below_drewN | apply below_drew1) | exact HB.out)⟩
end Go.Proofs.Ytpibhiacmceekaa.X
end

section
namespace Go.Proofs.Ytpibhiacmceekaa.X
open Go.RowKit Go.Proofs.YtpibhiacmceekaaW.PrintWords Go.Proofs.YtpibhiacmceekaaW.PrintLast Go.Proofs.YtpibhiacmceekaaW.PrintMore
attribute [local go_sem] max2_int min2_int max_two min_two max_three min_three max_four min_four
set_option linter.unusedVariables false
set_option linter.unusedSimpArgs false
def dwBad (n x : Int) : Bool := decide (x < 0) || decide (n ≤ x)
set_option maxHeartbeats 400000 in
theorem dw_pred (w : World) (g0 : Nat) (n x : Int) (hn : w.cell? ⟨g0, 0, none⟩ = some (.int .i64 n)) :
  Calls Try.prog 45 #[.int .i64 x, .pointer (some ⟨g0, 0, none⟩)] w fun e w' => e = .returned (.bool (dwBad n x)) ∧ Drawn0 w w' := by
 by_cases c : x < 0
 ·have cb : decide (x < 0) = true := decide_eq_true c
  have hr := Aside0.mk (show dwBad n x = true by unfold dwBad; rw [cb]; rfl)
  go_enter Try.func45, Try.ntmps45
  go_wp2
  go_ret
  exact ⟨by rw [hr.out]; rfl, Drawn0.refl _⟩
 ·have cb : decide (x < 0) = false := decide_eq_false c
  have hr := Aside0.mk (show dwBad n x = decide (n ≤ x) by unfold dwBad; rw [cb]; rfl)
  go_enter Try.func45, Try.ntmps45
  go_wp2
  go_ret
  exact ⟨by rw [hr.out]; rfl, Drawn0.refl _⟩
theorem dw_drop {l : List Int} {i : Nat} (h : i < l.length) : l.drop i = l.getD i 0 :: l.drop (i + 1) := by
 rw [List.drop_eq_getElem_cons h, List.getD_eq_getElem?_getD, List.getElem?_eq_getElem h]; rfl
def SomeIdx (b : Bool) (e : Ending) : Prop := ∃ i : Int, e = .returned (.int .i64 i) ∧ decide (0 ≤ i) = b
set_option maxHeartbeats 1000000 in
theorem dw_index (A0 : Option Addr) (c0 : Nat) (l0 : List Int) (g0 : Nat) (n : Int) (w : World) (hr0 : Kd.C (Kd.int .i64) w A0 l0.length l0) (hn : w.cell? ⟨g0, 0, none⟩ = some (.int .i64 n)) :
  Calls Try.prog 61 #[.slice A0 l0.length c0, .func (.func 45) #[] #[.pointer (some ⟨g0, 0, none⟩)]] w fun e w' => SomeIdx (l0.any (dwBad n)) e ∧ Below w.heap.size w w' := by
 have hl : l0.length ≤ 9223372036854775807 := hr0.2.1
 have HR := Aside0.mk hr0
 have HN := Aside0.mk hn
 have hg : g0 < w.heap.size := World.block_lt_of_cell? w _ hn
 clear hr0 hn
 go_enter Try.func61, Try.ntmps61
 go_wp2
 go_loopw [8] (fun v8 w' => ∃ (j : Nat), v8 = .int .i64 j ∧ j ≤ l0.length ∧ Aside0 (l0.any (dwBad n) = (l0.drop j).any (dwBad n)) ∧ Aside0 (Below w.heap.size w w')) (fun v8 w' => l0.length - (intOf v8).toNat)
 case atStart => exact ⟨0, rfl, Nat.zero_le _, ⟨rfl⟩, ⟨Below.refl _ _⟩⟩
 case round =>
  obtain ⟨j, rfl, hj, HA, HB⟩ := hrel
  by_cases hlt : j < l0.length
  ·have hA := HA.out
   rw [dw_drop hlt, List.any_cons] at hA
   obtain ⟨ad, rfl, hcell⟩ := c_at (Kd.C_below HR.out HB.out) (j : Int) (by omega) (by omega)
   have e : rd l0 (j : Int) = l0.getD j 0 := rfl
   rw [e, show ((j : Int)).toNat = j from rfl] at hcell
   obtain ⟨x, hx⟩ : ∃ x, x = l0.getD j 0 := ⟨_, rfl⟩
   rw [← hx] at hcell hA
   clear e hx HA
   have HP := dw_pred wr g0 n x ((HB.out.cell (p := ⟨g0, 0, none⟩) hg).trans HN.out)
   obtain ⟨b, hb⟩ : ∃ b, b = dwBad n x := ⟨_, rfl⟩
   rw [← hb] at HP hA
   clear hb
   cases b with
   | true =>
    have HA' := Aside0.mk (show l0.any (dwBad n) = true by rw [hA]; rfl)
    clear hA
    go_wp2_with fail
    refine HP.mono ?_
    clear HP
    rintro e W1 ⟨rfl, ⟨nd, rfl⟩⟩
    go_wp2
    go_ret
    exact ⟨⟨_, rfl, by rw [HA'.out]; simp⟩, pw_below_drewN HB.out nd⟩
   | false =>
    have HA' := Aside0.mk (show l0.any (dwBad n) = (l0.drop (j + 1)).any (dwBad n) by rw [hA]; rfl)
    clear hA
    go_wp2_with fail
    refine HP.mono ?_
    clear HP
    rintro e W1 ⟨rfl, ⟨nd, rfl⟩⟩
    go_wp2
    go_roundw
    case rel => exact ⟨j + 1, by go_num, by omega, HA', ⟨pw_below_drewN HB.out nd⟩⟩
    case measure => simp [intOf]; omega
  ·have hA := HA.out
   rw [List.drop_eq_nil_of_le (by omega)] at hA
   clear HA
   have HA' := Aside0.mk hA
   clear hA
   go_wp2
   go_ret
   exact ⟨⟨_, rfl, by rw [HA'.out]; rfl⟩, HB.out⟩
set_option maxHeartbeats 400000 in
theorem dw_contains (A0 : Option Addr) (c0 : Nat) (l0 : List Int) (g0 : Nat) (n : Int) (w : World) (hr0 : Kd.C (Kd.int .i64) w A0 l0.length l0) (hn : w.cell? ⟨g0, 0, none⟩ = some (.int .i64 n)) :
  Calls Try.prog 44 #[.slice A0 l0.length c0, .func (.func 45) #[] #[.pointer (some ⟨g0, 0, none⟩)]] w fun e w' => e = .returned (.bool (l0.any (dwBad n))) ∧ Below w.heap.size w w' := by
 have HX := dw_index A0 c0 l0 g0 n w hr0 hn
 clear hr0 hn
 go_enter Try.func44, Try.ntmps44
 go_wp2_with fail
 refine HX.mono ?_
 clear HX
 rintro e W1 ⟨⟨i, rfl, hi⟩, hb⟩
 have HI := Aside0.mk hi
 have HB := Aside0.mk hb
 clear hi hb
 go_wp2
 go_ret
 exact ⟨by rw [← HI.out]; rfl, HB.out⟩
def dict_Write.f (k : Nat) (a0 : Int) (l1 : List Int) : Option (List Int × Int) :=
 if a0 < 0 then some ([], 2) else if l1.any (dwBad a0) = true then some ([], 2) else if 65536 < a0 then some ([], 3) else if 65536 < (l1.length : Int) then some ([], 3) else
  (bits_Width.f k (max 0 (a0 - 1))).bind fun t => (hybrid_Write.f k t l1).bind fun b => if b.2 = 0 then (if 1048576 ≤ (b.1.length : Int) then some ([], 3) else some ([t % 256] ++ b.1, 0)) else some ([], 3)
theorem dict_Write.mono : ∀ a0 l1 k, LeO (dict_Write.f k a0 l1) (dict_Write.f (k + 1) a0 l1) := by
 intro a0 l1 k
 unfold dict_Write.f
 exact LeO.ite (LeO.refl _) (LeO.ite (LeO.refl _) (LeO.ite (LeO.refl _) (LeO.ite (LeO.refl _) (LeO.bind (bits_Width.mono _ _) (fun _ => LeO.bind (hybrid_Write.mono _ _ _) (fun _ => LeO.refl _))))))
def DwEnd (w : World) (r1 : List Int) (r2 : Int) (e : Ending) (w' : World) : Prop := ∃ v0_ : Value, e = .returned (.tuple #[v0_, .int .i64 r2]) ∧ Kd.R (Kd.int .u8) 5 w' w.heap.size (fun _ => True) v0_ r1 ∧ Below w.heap.size w w'
theorem dw_end_nil {w w' : World} {r2 : Int} (h : Below w.heap.size w w') : DwEnd w [] r2 (.returned (.tuple #[.slice none 0 0, .int .i64 r2])) w' := ⟨_, rfl, Kd.R_nil _ _ _ _ _, h⟩
set_option maxHeartbeats 1000000 in
theorem dw_neg (A1 : Option Addr) (c1 : Nat) (l1 : List Int) (a0 : Int) (w : World) (h : a0 < 0) :
  Calls Try.prog 21 #[.int .i64 a0, .slice A1 l1.length c1] w (DwEnd w [] 2) := by
 have hb := decide_eq_true h
 clear h
 go_enter Try.func21, Try.ntmps21
 go_wp2
 go_ret2
 exact dw_end_nil (below_alloc (Below.refl _ _) _)
set_option maxHeartbeats 2000000 in
theorem dw_err (A1 : Option Addr) (c1 : Nat) (l1 : List Int) (a0 : Int) (r2 : Int) (w : World) (hr1 : Kd.C (Kd.int .i64) w A1 l1.length l1) (hc1 : l1.length ≤ c1) (h0 : ¬ a0 < 0)
  (h : (l1.any (dwBad a0) = true ∧ r2 = 2) ∨ (l1.any (dwBad a0) = false ∧ (65536 < a0 ∨ 65536 < (l1.length : Int)) ∧ r2 = 3)) :
  Calls Try.prog 21 #[.int .i64 a0, .slice A1 l1.length c1] w (DwEnd w [] r2) := by
 have hb := decide_eq_false h0
 have HC := dw_contains A1 c1 l1 w.heap.size a0 (w.alloc (.cells #[.int .i64 a0] 3)) (Kd.C_alloc hr1 _) (by simp)
 have HB0 := Aside0.mk (below_alloc (Below.refl w.heap.size w) (.cells #[.int .i64 a0] 3))
 clear hr1
 obtain ⟨b, hbb⟩ : ∃ b, b = l1.any (dwBad a0) := ⟨_, rfl⟩
 rw [← hbb] at HC h
 clear hbb h0
 rcases h with ⟨rfl, rfl⟩ | ⟨rfl, h, rfl⟩
 ·go_enter Try.func21, Try.ntmps21
  go_wp2_with fail
  refine HC.mono ?_
  clear HC
  rintro e W1 ⟨rfl, hB⟩
  have HB := Aside0.mk (HB0.out.trans (hB.mono (by simp)))
  clear hB HB0
  go_wp2
  go_ret2
  exact dw_end_nil HB.out
 ·by_cases h1 : 65536 < a0
  ·have h1b := decide_eq_true h1
   clear h1 h
   have hn := Aside0.mk (show (w.alloc (.cells #[.int .i64 a0] 3)).cell? ⟨w.heap.size, 0, none⟩ = some (.int .i64 a0) by simp)
   go_enter Try.func21, Try.ntmps21
   go_wp2_with fail
   refine HC.mono ?_
   clear HC
   rintro e W1 ⟨rfl, hB⟩
   have hcell : W1.cell? ⟨w.heap.size, 0, none⟩ = some (.int .i64 a0) := (hB.cell (p := ⟨w.heap.size, 0, none⟩) (by simp)).trans hn.out
   have HB := Aside0.mk (HB0.out.trans (hB.mono (by simp)))
   clear hB HB0 hn
   go_wp2
   go_ret2
   exact dw_end_nil HB.out
  ·have h1b := decide_eq_false h1
   have h2b := decide_eq_true (show 65536 < (l1.length : Int) by omega)
   clear h1 h
   have hn := Aside0.mk (show (w.alloc (.cells #[.int .i64 a0] 3)).cell? ⟨w.heap.size, 0, none⟩ = some (.int .i64 a0) by simp)
   go_enter Try.func21, Try.ntmps21
   go_wp2_with fail
   refine HC.mono ?_
   clear HC
   rintro e W1 ⟨rfl, hB⟩
   have hcell : W1.cell? ⟨w.heap.size, 0, none⟩ = some (.int .i64 a0) := (hB.cell (p := ⟨w.heap.size, 0, none⟩) (by simp)).trans hn.out
   have HB := Aside0.mk (HB0.out.trans (hB.mono (by simp)))
   clear hB HB0 hn
   go_wp2
   go_ret2
   exact dw_end_nil HB.out
set_option maxHeartbeats 4000000 in
set_option maxRecDepth 100000 in
theorem dw_fine (k : Nat) (A1 : Option Addr) (c1 : Nat) (l1 : List Int) (a0 : Int) (t : Int) (b : List Int) (e2 : Int) (r1 : List Int) (r2 : Int) (w : World) (hr1 : Kd.C (Kd.int .i64) w A1 l1.length l1) (hc1 : l1.length ≤ c1) (h0 : 0 ≤ a0)
  (h : l1.any (dwBad a0) = false) (h1 : a0 ≤ 65536) (h2 : (l1.length : Int) ≤ 65536) (hW : bits_Width.f k (max 0 (a0 - 1)) = some t) (hH : hybrid_Write.f k t l1 = some (b, e2))
  (hr : (if e2 = 0 then (if 1048576 ≤ (b.length : Int) then some ([], 3) else some ([t % 256] ++ b, 0)) else some ([], 3)) = some (r1, r2)) :
  Calls Try.prog 21 #[.int .i64 a0, .slice A1 l1.length c1] w (DwEnd w r1 r2) := by
 have HC := dw_contains A1 c1 l1 w.heap.size a0 (w.alloc (.cells #[.int .i64 a0] 3)) (Kd.C_alloc hr1 _) (by simp)
 rw [h] at HC
 have HR := Aside0.mk hr1
 have HB0 := Aside0.mk (below_alloc (Below.refl w.heap.size w) (.cells #[.int .i64 a0] 3))
 have hn := Aside0.mk (show (w.alloc (.cells #[.int .i64 a0] 3)).cell? ⟨w.heap.size, 0, none⟩ = some (.int .i64 a0) by simp)
 have h1b := decide_eq_false (show ¬ 65536 < a0 by omega)
 have h2b := decide_eq_false (show ¬ 65536 < (l1.length : Int) by omega)
 obtain ⟨m, hm⟩ : ∃ m, m = max 0 (a0 - 1) := ⟨_, rfl⟩
 rw [← hm] at hW
 have HW : ∀ W, Calls Try.prog 36 #[.int .u64 m] W fun e w' => e = .returned (.int .i64 t) ∧ Drawn0 W w' := fun W => bits_Width.calls k m t W hW
 have HW := Aside0.mk HW
 have A2' := Aside0.mk hH
 have A3' := Aside0.mk hr
 have h01 : (a0 ≤ 1 ∧ m = 0) ∨ (1 < a0 ∧ m = a0 - 1) := by omega
 clear hr1 h hW hH hr hm
 rcases h01 with ⟨h01, rfl⟩ | ⟨h01, rfl⟩
 all_goals
  go_enter Try.func21, Try.ntmps21
  go_wp2_with fail
  refine HC.mono ?_
  clear HC
  rintro e W1 ⟨rfl, hB⟩
  have hcell : W1.cell? ⟨w.heap.size, 0, none⟩ = some (.int .i64 a0) := (hB.cell (p := ⟨w.heap.size, 0, none⟩) (by simp)).trans hn.out
  have HB := Aside0.mk (HB0.out.trans (hB.mono (by simp)))
  clear hB HB0 hn
  go_wp2_with fail
  refine (HW.out _).mono ?_
  rintro e W2 ⟨rfl, ⟨nd, rfl⟩⟩
  have HB2 := Aside0.mk (pw_below_drewN HB.out nd)
  clear HB HW
  obtain ⟨W3, hW3⟩ : ∃ W3, W3 = W1.drewN nd := ⟨_, rfl⟩
  rw [← hW3] at HB2 ⊢
  clear hW3
  go_wp2_with fail
  refine (hybrid_Write.calls k t (fun _ => True) A1 c1 l1 b e2 W3 (v_of_c (Kd.C_below HR.out HB2.out) hc1) A2'.out).mono ?_
  rintro e W4 ⟨v0, rfl, hR, hB4⟩
  have HB := Aside0.mk (HB2.out.trans (hB4.mono HB2.out.size))
  have HR4 := Aside0.mk (Kd.R_lower hR HB2.out.size)
  obtain ⟨Ao, co, rfl⟩ := Kd.R_slice hR
  clear HB2 hR hB4 A2' HR
  by_cases he : e2 = 0
  ·have heb : (e2 != 0) = false := by simp [he]
   have A3 := A3'.out
   rw [if_pos he] at A3
   clear A3'
   by_cases hg : 1048576 ≤ (b.length : Int)
   ·have hgb := decide_eq_true hg
    rw [if_pos hg] at A3
    obtain ⟨rfl, rfl⟩ : [] = r1 ∧ 3 = r2 := by simpa using A3
    clear A3 he hg
    go_wp2
    go_ret2
    exact dw_end_nil HB.out
   ·have hgb := decide_eq_false hg
    rw [if_neg hg] at A3
    obtain ⟨hr1, rfl⟩ : [t % 256] ++ b = r1 ∧ 0 = r2 := by simpa using A3
    have HR1 := Aside0.mk hr1
    clear A3 he hr1
    go_wp2_with (first | ((with_reducible refine gate_dst (N := 45) rfl ?_); (try (refine gate_guard (by rfl) ?_; dsimp only)); refine Kd.R_lit (Kd.int .u8) _ 5 ?hg (N := 45) ?hd (xs := ([(t) % 256] : List Int)) (inner := [.int .u8 ((t) % 256)]) (ok := fun _ => True) (okp := fun _ => True) ?hr ?hp (fun _ hk => hk) trivial (Below.refl _ _) (Nat.le_refl _) (by simp) ?_; (case hd => rfl); (case hg => rfl); (case hr => first | (go_simp; done) | (go_simp; rfl)); (case hp => exact (Reps.one (show Kd.M (Kd.int .u8) _ _ _ ((t) % 256) [.int .u8 ((t) % 256)] from rfl) (Reps.none _ _))); intro v5 w5 ho5 hb5 hg5 hnew5; clear hg5 hnew5; have HO4 := Aside0.mk (Kd.R_elder' HR4.out (Kd.R_base ho5) hb5); have HO5 := Aside0.mk (Kd.R_lower (Kd.R_new' ho5 (Kd.R_lt HR4.out)) HB.out.size); have HB5 := Aside0.mk (below_step HB.out hb5); clear HB HR4 ho5 hb5) | ((with_reducible refine gate_builtin (b := .append) (xs := #[.tmp 45, .tmp 46]) rfl ?_); (try (refine gate_guard (by rfl) ?_; dsimp only)); at_builtin; refine Kd.R_append_rows (Kd.int .u8) (w0 := w) w.heap.size rfl (.tmp 45) (.tmp 46) 37 5 (.int .u8 0) 1 rfl Try.underlying37 info5 rfl (by decide) (by omega) v5 [t % 256] b _ _ _ (fun k_ => some k_ ≠ (.slice Ao b.length co : Value).ownBlock) (fun _ => False) rfl rfl ?aO ?aR (fun _ _ h => h) (fun _ h => h.elim) ?aF ?aB ?aS ?aL ?_; (case aR => exact (Kd.R_reads' HO4.out).2.2); (case aB => exact HB5.out); (case aF => exact (fun k_ hk => Kd.fresh' (Kd.R_lt HO4.out) k_ hk)); (case aO => exact Kd.R_mono HO5.out (fun _ hk => hk.2)); (case aS => exact HB5.out.size); (case aL => simp; omega); intro v6 w6 ho hb hg hat; rw [HR1.out] at ho; have HO := Aside0.mk ho; have HB := Aside0.mk hb; clear ho hb hg hat HO4 HO5 HB5 HR1))
    go_ret2
    exact ⟨_, rfl, Kd.R_mono HO.out (fun _ _ => trivial), HB.out⟩
  ·have heb : (e2 != 0) = true := by simp [he]
   have A3 := A3'.out
   rw [if_neg he] at A3
   obtain ⟨rfl, rfl⟩ : [] = r1 ∧ 3 = r2 := by simpa using A3
   clear A3 he A3'
   go_wp2
   go_ret2
   exact dw_end_nil HB.out
theorem dict_Write.calls (k : Nat) (a0 : Int) (A1 : Option Addr) (c1 : Nat) (l1 : List Int) (r1 : List Int) (r2 : Int) (w : World) (hr1 : Kd.C (Kd.int .i64) w A1 l1.length l1) (hc1 : l1.length ≤ c1) (h : dict_Write.f k a0 l1 = some (r1, r2)) :
  Calls Try.prog 21 #[.int .i64 a0, .slice A1 l1.length c1] w fun e w' => ∃ v0_ : Value, e = .returned (.tuple #[v0_, .int .i64 r2]) ∧ Kd.R (Kd.int .u8) 5 w' w.heap.size (fun _ => True) v0_ r1 ∧ Below w.heap.size w w' := by
 unfold dict_Write.f at h
 by_cases c : a0 < 0
 ·rw [if_pos c] at h
  obtain ⟨rfl, rfl⟩ : [] = r1 ∧ 2 = r2 := by simpa using h
  exact dw_neg A1 c1 l1 a0 w c
 rw [if_neg c] at h
 by_cases d : l1.any (dwBad a0) = true
 ·rw [if_pos d] at h
  obtain ⟨rfl, rfl⟩ : [] = r1 ∧ 2 = r2 := by simpa using h
  exact dw_err A1 c1 l1 a0 2 w hr1 hc1 c (.inl ⟨d, rfl⟩)
 rw [if_neg d] at h
 have d' : l1.any (dwBad a0) = false := by simpa using d
 by_cases e : 65536 < a0
 ·rw [if_pos e] at h
  obtain ⟨rfl, rfl⟩ : [] = r1 ∧ 3 = r2 := by simpa using h
  exact dw_err A1 c1 l1 a0 3 w hr1 hc1 c (.inr ⟨d', .inl e, rfl⟩)
 rw [if_neg e] at h
 by_cases f : 65536 < (l1.length : Int)
 ·rw [if_pos f] at h
  obtain ⟨rfl, rfl⟩ : [] = r1 ∧ 3 = r2 := by simpa using h
  exact dw_err A1 c1 l1 a0 3 w hr1 hc1 c (.inr ⟨d', .inr f, rfl⟩)
 rw [if_neg f] at h
 obtain ⟨t, ht, h⟩ := Option.bind_eq_some_iff.1 h
 obtain ⟨⟨b, e2⟩, hb, h⟩ := Option.bind_eq_some_iff.1 h
 exact dw_fine k A1 c1 l1 a0 t b e2 r1 r2 w hr1 hc1 (by omega) d' (by omega) (by omega) ht hb h
end Go.Proofs.Ytpibhiacmceekaa.X
end

section
namespace Go.Proofs.Ytpibhiacmceekaa.X
open Go.RowKit Go.Proofs.YtpibhiacmceekaaW.PrintWords Go.Proofs.YtpibhiacmceekaaW.PrintLast Go.Proofs.YtpibhiacmceekaaW.PrintMore
attribute [local go_sem] max2_int min2_int max_two min_two max_three min_three max_four min_four
set_option linter.unusedVariables false
set_option linter.unusedSimpArgs false
mutual
def bits_ReadLittle.j0 : Nat → List Int → Int → Int → Bool → Option (Int × Int)
 | 0, _, _, _, _ => none
 | k + 1, x0, x1, x2, x10 => if x10 = true then (some (0, 2)) else (if x2 > (wrap64 ((x0.length : Int) - x1)) then (some (0, 6)) else (bits_ReadLittle.l0 k x0 x1 0 x2 0))
def bits_ReadLittle.l0 : Nat → List Int → Int → Int → Int → Int → Option (Int × Int)
 | 0, _, _, _, _, _ => none
 | k + 1, x0, x1, x8, x34, x35 => if x35 < x34 then (if 0 ≤ (wrap64 (x1 + x35)) then (if (wrap64 (x1 + x35)) < (x0.length : Int) then (if 0 ≤ (wrap64 (8 * x35)) then (bits_ReadLittle.l0 k x0 x1 (Go.bits .or .u64 x8 (shl .u64 (IntKind.u64.wrap (rd x0 (wrap64 (x1 + x35)))) (wrap64 (8 * x35)))) x34 (wrap64 (x35 + 1))) else (none)) else (none)) else (none)) else (some (x8, 0))
end
def bits_ReadLittle.f (k : Nat) (l0 : List Int) (a1 : Int) (a2 : Int) : Option (Int × Int) := if a2 < 0 then (bits_ReadLittle.j0 k l0 a1 a2 true) else (if a2 > 8 then (bits_ReadLittle.j0 k l0 a1 a2 true) else (if a1 < 0 then (bits_ReadLittle.j0 k l0 a1 a2 true) else (bits_ReadLittle.j0 k l0 a1 a2 (decide (a1 > (l0.length : Int))))))
theorem bits_ReadLittle.mono_l : ∀ k, (∀ y0 y1 y2 y3, LeO (bits_ReadLittle.j0 k y0 y1 y2 y3) (bits_ReadLittle.j0 (k + 1) y0 y1 y2 y3)) ∧ (∀ y0 y1 y2 y3 y4, LeO (bits_ReadLittle.l0 k y0 y1 y2 y3 y4) (bits_ReadLittle.l0 (k + 1) y0 y1 y2 y3 y4))
 | 0 => ⟨fun _ _ _ _ r h => by simp [bits_ReadLittle.j0] at h, fun _ _ _ _ _ r h => by simp [bits_ReadLittle.l0] at h⟩
 | k + 1 => by
  obtain ⟨ih0, ih1⟩ := bits_ReadLittle.mono_l k
  refine ⟨?_, ?_⟩
  ·intro y0 y1 y2 y3
   unfold bits_ReadLittle.j0
   repeat' first
   | (with_reducible exact ih0 _ _ _ _)
   | (with_reducible exact ih1 _ _ _ _ _)
   | (with_reducible exact LeO.refl _)
   | (with_reducible exact LeO.none _)
   | (with_reducible refine LeO.ite ?_ ?_)
   | (with_reducible refine LeO.bind ?_ (fun _ => ?_))
   | exact ih0 _ _ _ _
   | exact ih1 _ _ _ _ _
   | exact LeO.none _
   | refine LeO.ite ?_ ?_
   | refine LeO.bind ?_ (fun _ => ?_)
  ·intro y0 y1 y2 y3 y4
   unfold bits_ReadLittle.l0
   repeat' first
   | (with_reducible exact ih0 _ _ _ _)
   | (with_reducible exact ih1 _ _ _ _ _)
   | (with_reducible exact LeO.refl _)
   | (with_reducible exact LeO.none _)
   | (with_reducible refine LeO.ite ?_ ?_)
   | (with_reducible refine LeO.bind ?_ (fun _ => ?_))
   | exact ih0 _ _ _ _
   | exact ih1 _ _ _ _ _
   | exact LeO.none _
   | refine LeO.ite ?_ ?_
   | refine LeO.bind ?_ (fun _ => ?_)
theorem bits_ReadLittle.mono : ∀ a0 a1 a2 k, LeO (bits_ReadLittle.f k a0 a1 a2) (bits_ReadLittle.f (k + 1) a0 a1 a2) := by
 intro a0 a1 a2 k
 obtain ⟨ih0, ih1⟩ := bits_ReadLittle.mono_l k
 unfold bits_ReadLittle.f
 repeat' first
   | (with_reducible exact ih0 _ _ _ _)
   | (with_reducible exact ih1 _ _ _ _ _)
   | (with_reducible exact LeO.refl _)
   | (with_reducible exact LeO.none _)
   | (with_reducible refine LeO.ite ?_ ?_)
   | (with_reducible refine LeO.bind ?_ (fun _ => ?_))
   | exact ih0 _ _ _ _
   | exact ih1 _ _ _ _ _
   | exact LeO.none _
   | refine LeO.ite ?_ ?_
   | refine LeO.bind ?_ (fun _ => ?_)
set_option maxHeartbeats 8000000 in
set_option maxRecDepth 100000 in
theorem bits_ReadLittle.calls (k : Nat) (A0 : Option Addr) (c0 : Nat) (l0 : List Int) (a1 : Int) (a2 : Int) (r1 : Int) (r2 : Int) (w : World) (hr0 : Kd.C (Kd.int .u8) w A0 l0.length l0) (hc0 : l0.length ≤ c0) (h : bits_ReadLittle.f k l0 a1 a2 = some (r1, r2)) :
  Calls Try.prog 50 #[.slice A0 l0.length c0, .int .i64 a1, .int .i64 a2] w fun e w' => e = .returned (.tuple #[.int .u64 r1, .int .i64 r2]) ∧ Drawn0 w w' := by
 have HR0 := Aside0.mk hr0
 have HC0 := Aside0.mk hc0
 clear hr0 hc0
 have H : (if a2 < 0 then (bits_ReadLittle.j0 k l0 a1 a2 true) else (if a2 > 8 then (bits_ReadLittle.j0 k l0 a1 a2 true) else (if a1 < 0 then (bits_ReadLittle.j0 k l0 a1 a2 true) else (bits_ReadLittle.j0 k l0 a1 a2 (decide (a1 > (l0.length : Int))))))) = some (r1, r2) := h
 clear h
 have HC4 := Aside0.mk H
 clear H
 go_enter Try.func50, Try.ntmps50
 go_upto_region 1 with (fail)
 go_cut [10] (fun v10 wc => ∃ (kq : Nat) (x10_3 : Bool), v10 = .bool x10_3 ∧ Aside0 (bits_ReadLittle.j0 kq l0 a1 a2 x10_3 = some (r1, r2)) ∧ Aside0 (kq ≤ k) ∧ Drawn0 w wc)
 case first =>
  have H := HC4.out
  clear HC4
  by_cases c5 : a2 < 0
  ·rw [if_pos c5] at H
   have c5b0 : decide (a2 < 0) = true := decide_eq_true c5
   clear c5
   (first | rw [c5b0] | (simp only [i64_w, i32_w]; rw [c5b0]) | skip)
   have H' := Aside0.mk H
   clear H
   go_wp2
   go_meet
   case rel => exact ⟨_, (true), (by first | rfl | (simp; done) | (simp [*]; done)), H', ⟨by first | omega | exact Nat.le_refl _⟩, by repeat (first | exact Drawn0.refl _ | apply Drawn0.step)⟩
  ·rw [if_neg c5] at H
   have c5b0 : decide (a2 < 0) = false := decide_eq_false c5
   clear c5
   (first | rw [c5b0] | (simp only [i64_w, i32_w]; rw [c5b0]) | skip)
   by_cases c6 : a2 > 8
   ·rw [if_pos c6] at H
    have c6b0 : decide (8 < a2) = true := decide_eq_true c6
    clear c6
    have H' := Aside0.mk H
    clear H
    go_wp2
    go_meet
    case rel => exact ⟨_, (true), (by first | rfl | (simp; done) | (simp [*]; done)), H', ⟨by first | omega | exact Nat.le_refl _⟩, by repeat (first | exact Drawn0.refl _ | apply Drawn0.step)⟩
   ·rw [if_neg c6] at H
    have c6b0 : decide (8 < a2) = false := decide_eq_false c6
    clear c6
    by_cases c7 : a1 < 0
    ·rw [if_pos c7] at H
     have c7b0 : decide (a1 < 0) = true := decide_eq_true c7
     clear c7
     have H' := Aside0.mk H
     clear H
     go_wp2
     go_meet
     case rel => exact ⟨_, (true), (by first | rfl | (simp; done) | (simp [*]; done)), H', ⟨by first | omega | exact Nat.le_refl _⟩, by repeat (first | exact Drawn0.refl _ | apply Drawn0.step)⟩
    ·rw [if_neg c7] at H
     have c7b0 : decide (a1 < 0) = false := decide_eq_false c7
     clear c7
     have H' := Aside0.mk H
     clear H
     go_wp2
     go_meet
     case rel => exact ⟨_, (decide (a1 > (l0.length : Int))), (by first | rfl | (simp; done) | (simp [*]; done)), H', ⟨by first | omega | exact Nat.le_refl _⟩, by repeat (first | exact Drawn0.refl _ | apply Drawn0.step)⟩
 case rest =>
  clear HC4
  try clear p2
  try clear c5
  try clear c5b0
  try clear c6
  try clear c6b0
  try clear c7
  try clear c7b0
  obtain ⟨kq, x10_3, rfl, HA, HJ3, ⟨mc3, rfl⟩⟩ := hcut
  cases kq with
  | zero => exact absurd HA.out (by simp [bits_ReadLittle.j0])
  | succ kj3 =>
   have H := HA.out
   clear HA
   simp only [bits_ReadLittle.j0] at H
   by_cases c8 : x10_3 = true
   ·subst c8
    have H1 : (some (0, 2)) = some (r1, r2) := by rw [if_pos rfl] at H; exact H
    clear H
    have H := H1
    clear H1
    simp only [Option.some.injEq, Prod.mk.injEq] at H
    obtain ⟨rfl, rfl⟩ := H
    go_wp2
    go_ret2
    exact ⟨by first | rfl | (simp; done) | (simp [*]; done), by repeat (first | exact Drawn0.refl _ | apply Drawn0.step)⟩
   ·replace c8 := Bool.eq_false_iff.mpr c8
    subst c8
    have H1 : (if a2 > (wrap64 ((l0.length : Int) - a1)) then (some (0, 6)) else (bits_ReadLittle.l0 kj3 l0 a1 0 a2 0)) = some (r1, r2) := by rw [if_neg (show ¬ (false = true) by decide)] at H; exact H
    clear H
    have H := H1
    clear H1
    by_cases c9 : a2 > (wrap64 ((l0.length : Int) - a1))
    ·rw [if_pos c9] at H
     have c9b0 : decide ((wrap64 ((l0.length : Int) - a1)) < a2) = true := decide_eq_true c9
     clear c9
     simp only [Option.some.injEq, Prod.mk.injEq] at H
     obtain ⟨rfl, rfl⟩ := H
     go_wp2
     go_ret2
     exact ⟨by first | rfl | (simp; done) | (simp [*]; done), by repeat (first | exact Drawn0.refl _ | apply Drawn0.step)⟩
    ·rw [if_neg c9] at H
     have c9b0 : decide ((wrap64 ((l0.length : Int) - a1)) < a2) = false := decide_eq_false c9
     clear c9
     have H' := Aside0.mk H
     clear H
     go_wp2
     go_loopg [8, 35] kj3 (fun kq v8 v35 w' => ∃ (x8_2 : Int) (x35_2 : Int), v8 = .int .u64 x8_2 ∧ v35 = .int .i64 x35_2 ∧ Aside0 (bits_ReadLittle.l0 kq l0 a1 x8_2 a2 x35_2 = some (r1, r2)) ∧ Aside0 (kq ≤ kj3) ∧ Drawn0 w w')
     case atStart => exact ⟨(0), (0), (by first | rfl | (simp; done) | (simp [*]; done)), (by first | rfl | (simp; done) | (simp [*]; done)), H', ⟨Nat.le_refl _⟩, by repeat (first | exact Drawn0.refl _ | apply Drawn0.step)⟩
     case round =>
      clear H'
      try clear p2
      try clear c3
      try clear c5
      try clear c5b0
      try clear c6
      try clear c6b0
      try clear p6
      try clear c7
      try clear c7b0
      try clear c8
      try clear c9
      try clear c9b0
      try clear p2
      obtain ⟨x8_2, x35_2, rfl, rfl, HA, HK2, ⟨m2, rfl⟩⟩ := hrel
      cases gk with
      | zero => exact absurd HA.out (by simp [bits_ReadLittle.l0])
      | succ k2 =>
       have H := HA.out
       clear HA
       simp only [bits_ReadLittle.l0] at H
       by_cases c10 : x35_2 < a2
       ·rw [if_pos c10] at H
        have c10b0 : decide (x35_2 < a2) = true := decide_eq_true c10
        clear c10
        obtain ⟨ji11, hji11⟩ : ∃ j_ : Int, (wrap64 (a1 + x35_2)) = j_ := ⟨_, rfl⟩
        replace H : (if 0 ≤ (ji11) then (if (ji11) < (l0.length : Int) then (if 0 ≤ (wrap64 (8 * x35_2)) then (bits_ReadLittle.l0 k2 l0 a1 (Go.bits .or .u64 x8_2 (shl .u64 (IntKind.u64.wrap (rd l0 (ji11))) (wrap64 (8 * x35_2)))) a2 (wrap64 (x35_2 + 1))) else (none)) else (none)) else (none)) = some (r1, r2) := by first | (rw [hji11] at H; exact H) | (simp only [hji11] at H ⊢; exact H)
        have hji11w : (IntKind.i64.wrap (a1 + x35_2)) = ji11 := (i64_w _).trans hji11
        by_cases c12 : 0 ≤ (ji11)
        ·rw [if_pos c12] at H
         have c12b0 : decide (0 ≤ (ji11)) = true := decide_eq_true c12
         clear c12
         by_cases c13 : (ji11) < (l0.length : Int)
         ·rw [if_pos c13] at H
          have c13b0 : decide ((ji11) < (l0.length : Int)) = true := decide_eq_true c13
          clear c13
          obtain ⟨ji14, hji14⟩ : ∃ j_ : Int, (wrap64 (8 * x35_2)) = j_ := ⟨_, rfl⟩
          replace H : (if 0 ≤ (ji14) then (bits_ReadLittle.l0 k2 l0 a1 (Go.bits .or .u64 x8_2 (shl .u64 (IntKind.u64.wrap (rd l0 (ji11))) (ji14))) a2 (wrap64 (x35_2 + 1))) else (none)) = some (r1, r2) := by first | (rw [hji14] at H; exact H) | (simp only [hji14] at H ⊢; exact H)
          have hji14w : (IntKind.i64.wrap (8 * x35_2)) = ji14 := (i64_w _).trans hji14
          by_cases c15 : 0 ≤ (ji14)
          ·rw [if_pos c15] at H
           have c15b0 := eq_true c15
           have c15b1 : decide (0 ≤ (ji14)) = true := decide_eq_true c15
           clear c15
           obtain ⟨ji16, hji16⟩ : ∃ j_ : Int, (shl .u64 (IntKind.u64.wrap (rd l0 (ji11))) (ji14)) = j_ := ⟨_, rfl⟩
           replace H : (bits_ReadLittle.l0 k2 l0 a1 (Go.bits .or .u64 x8_2 (ji16)) a2 (wrap64 (x35_2 + 1))) = some (r1, r2) := by first | (rw [hji16] at H; exact H) | (simp only [hji16] at H ⊢; exact H)
           have hji16_ : (IntKind.u64.wrap ((IntKind.u64.wrap (rd l0 (ji11))) * 2 ^ min (ji14).toNat 64)) = ji16 := hji16
           have hji16z : (ji14) ≤ 64 → (IntKind.u64.wrap ((IntKind.u64.wrap (rd l0 (ji11))) * 2 ^ (ji14).toNat)) = ji16 := shl_small hji16
           have H' := Aside0.mk H
           clear H
           have p335 : 0 ≤ ((ji11) : Int) := of_decide_eq_true (by first | (with_reducible assumption) | assumption)
           have q335 : (ji11) < (l0.length : Int) := of_decide_eq_true (by first | (with_reducible assumption) | assumption)
           obtain ⟨ad335, e335, hx335_0⟩ := Kd.at_int HR0.out (ji11) p335 q335
           cases e335
           replace p335 := eq_true p335
           replace q335 := eq_true q335
           go_wp2
           go_roundg k2
           case measure => have := HJ3.out; have := HK2.out; omega
           case rel => exact ⟨(Go.bits .or .u64 x8_2 (ji16)), (wrap64 (x35_2 + 1)), (by first | rfl | (simp; done) | (simp only [← hji16] <;> (first | rfl | simp)) | (simp [*]; done)), (by first | rfl | (simp; done) | (simp [*]; done)), H', ⟨by have := HJ3.out; have := HK2.out; omega⟩, by repeat (first | exact Drawn0.refl _ | apply Drawn0.step)⟩
          ·rw [if_neg c15] at H
           exact absurd H (by simp)
         ·rw [if_neg c13] at H
          exact absurd H (by simp)
        ·rw [if_neg c12] at H
         exact absurd H (by simp)
       ·rw [if_neg c10] at H
        have c10b0 : decide (x35_2 < a2) = false := decide_eq_false c10
        clear c10
        simp only [Option.some.injEq, Prod.mk.injEq] at H
        obtain ⟨rfl, rfl⟩ := H
        go_wp2
        go_ret2
        exact ⟨by first | rfl | (simp; done) | (simp [*]; done), by repeat (first | exact Drawn0.refl _ | apply Drawn0.step)⟩
end Go.Proofs.Ytpibhiacmceekaa.X
end

section
namespace Go.Proofs.Ytpibhiacmceekaa.X
open Go.RowKit Go.Proofs.YtpibhiacmceekaaW.PrintWords Go.Proofs.YtpibhiacmceekaaW.PrintLast Go.Proofs.YtpibhiacmceekaaW.PrintMore
def plainOp : Op → Bool
  | .move _ | .assign _ | .load _ _ | .store _ _ _ | .binOp _ _ _ _ _ | .unOp _ _ _ | .convert _ _ _ | .indexAddr _ _ _ | .fieldAddr _ _ _ => true
  | _ => false
theorem plain_run {P : Program} {o : Oper} (h : plainOp o.op = true) (ρ : Operand → Value) (w : World) :
    (∃ v w', (execOp ρ o).run P w = .ok (.value v) w') ∨ (∃ w', (execOp ρ o).run P w = .ok .skip w') ∨ ∃ e w', (execOp ρ o).run P w = .halt e w' := by
  have val : ∀ s : Sem Value, (∃ v w', (do pure (Next.value (← s)) : Sem Next).run P w = .ok (.value v) w') ∨ (∃ w', (do pure (Next.value (← s)) : Sem Next).run P w = .ok .skip w') ∨ ∃ e w', (do pure (Next.value (← s)) : Sem Next).run P w = .halt e w' := by
    intro s
    cases hs : s.run P w with
    | ok a w' => exact .inl ⟨a, w', by simp [go_sem, hs]⟩
    | halt e w' => exact .inr (.inr ⟨e, w', by simp [go_sem, hs]⟩)
  have unit : ∀ s : Sem Unit, (∃ v w', (do s; pure Next.skip : Sem Next).run P w = .ok (.value v) w') ∨ (∃ w', (do s; pure Next.skip : Sem Next).run P w = .ok .skip w') ∨ ∃ e w', (do s; pure Next.skip : Sem Next).run P w = .halt e w' := by
    intro s
    cases hs : s.run P w with
    | ok a w' => exact .inr (.inl ⟨w', by simp [go_sem, hs]⟩)
    | halt e w' => exact .inr (.inr ⟨e, w', by simp [go_sem, hs]⟩)
  unfold execOp
  cases ho : o.op <;> rw [ho] at h <;> simp [plainOp] at h <;> simp only <;> first | exact val _ | exact unit _ | exact .inl ⟨_, _, rfl⟩
theorem plain_about {P : Program} {o : Oper} (h : plainOp o.op = true) (ρ : Operand → Value) (w : World) : o.about P w ρ = none := by
  unfold Oper.about
  cases ho : o.op <;> rw [ho] at h <;> simp [plainOp] at h <;> rfl
theorem plain_semAt {o : Oper} (h : plainOp o.op = true) (ro : Option Nat) (ρ : Operand → Value) : o.semAt ro ρ = execOp ρ o :=
  Oper.semAt_eq ro ρ o (fun c hc => by rw [hc] at h; simp [plainOp] at h)
theorem plain_in {F : Fence} {n : Nat} {P : Program} {ops : Array Oper} {K : Act → World → Prop} {Q : Exit → Act → World → Prop} (hp : ∀ (i : Nat) (o : Oper), ops[i]? = some o → plainOp o.op = true) (hK : ∀ a w, K a w → Q .normal a w) :
    ∀ (L : List Nat) (a : Act) (w : World), wpOps P ops (fun e a w => e = .normal ∧ K a w) L a w → wpOpsIn F n P ops Q L a w
  | [], a, w, h => hK _ _ h.2
  | i :: L, a, w, h => by
    unfold wpOps at h
    unfold wpOpsIn
    cases ho : ops[i]? with
    | none => simp only [ho] at h ⊢; exact plain_in hp hK L a w h
    | some o =>
      have hpo := hp i o ho
      simp only [ho] at h ⊢
      by_cases hw : Region.wanted o (yielded ops a.tmps) = true
      · rw [if_pos hw] at h ⊢
        rcases h with h | ⟨_, _, _, h⟩
        · refine ⟨(fun f hf => by rw [plain_about hpo] at hf; cases hf), ?_⟩
          rw [plain_semAt hpo]
          unfold Oper.wp at h
          rcases plain_run (P := P) hpo a.eval w with ⟨v, w', e⟩ | ⟨w', e⟩ | ⟨x, w', e⟩
          · rw [e] at h ⊢; exact plain_in hp hK L _ _ h
          · rw [e] at h ⊢; exact plain_in hp hK L _ _ h
          · rw [e] at h ⊢
            cases x <;> first | exact absurd h.1 (by simp) | exact absurd h (by simp [Oper.upon])
        · exact absurd h.1 (by simp)
      · rw [if_neg hw] at h ⊢
        exact ⟨(fun f hf => by rw [plain_about hpo] at hf; cases hf), plain_in hp hK L _ _ h⟩
theorem region_tail_in {F : Fence} {m : Nat} {P : Program} {id : Nat} {Q : Exit → Act → World → Prop} {a : Act} {w : World} {l : List Oper} (n : Nat) (hm : P.follows .mixedOrders = true) (hB : Region.lexTailB .any l.toArray n = true) (hp : l.all (fun o => plainOp o.op) = true)
    (h : ∀ w3 : World, w3 = w.drew → wpStill P l.toArray w3 (fun a' => wpList P l.toArray (fun e a w => e = .normal ∧ Q .normal a w) (l.drop n) a' w3) (l.take n) a) : (Code.region id l.toArray true).wpIn F m P Q a w := by
  have h := h _ rfl
  simp only [Region.lexTailB, Bool.and_eq_true, decide_eq_true_eq] at hB
  obtain ⟨⟨⟨⟨hsel, hn⟩, hs⟩, hc⟩, hlex⟩ := hB
  have hn' : n < l.length := by simpa using hn
  have htl : (l.take n).length = n := by simp; omega
  have hdl : (l.drop n).length = l.toArray.size - n := by simp
  have inv0 : HeadInv .any l.toArray n (Array.replicate l.toArray.size false) :=
    ⟨by simp, fun j oj _ hl => (by rw [getD_replicate_false] at hl; cases hl), fun t _ ht => getD_in (by simpa using ht) (getD_replicate_false _ _)⟩
  have H := wpAnyL_lex (md := .any) (g := l.toArray.size - n) hsel hs hc hn (l.take n) 0 _ a (fun j hj => by
    have hj' : j < n := by rw [htl] at hj; exact hj
    simp [hj']) (by simpa using htl) inv0 (by rw [htl]; exact hlex) h
  have H2 := wpAny_of_head (Q' := fun e a w => e = .normal ∧ Q .normal a w) (g := l.toArray.size - n) (fun listed a' hL => by
    have := wpAny_of_seq (md := .any) (Q' := fun e a w => e = .normal ∧ Q .normal a w) (l.drop n) n listed a' w.drew (fun j => by simp [List.getElem?_drop]) (by rw [hdl]; exact hL.1) hL.2
    rwa [hdl] at this) _ _ _ H
  rw [htl, show n + (l.toArray.size - n) = l.toArray.size by omega] at H2
  refine wpIn_region_draw fun t => ?_
  simp only [Region.schedule, hm, Bool.true_or, if_true]
  refine plain_in (K := fun a w => Q .normal a w) (fun i o ho => ?_) (fun _ _ h => h) _ _ _ (wpAny_sound l.toArray.size t _ a _ H2)
  have : o ∈ l := by simpa using Array.mem_of_getElem? ho
  exact List.all_eq_true.1 hp o this
end Go.Proofs.Ytpibhiacmceekaa.X
end

section
namespace Go.Proofs.Ytpibhiacmceekaa.X
open Go.RowKit Go.Proofs.YtpibhiacmceekaaW.PrintWords Go.Proofs.YtpibhiacmceekaaW.PrintLast Go.Proofs.YtpibhiacmceekaaW.PrintMore Go.Shelf
attribute [local go_sem] Oper.semAt_some
set_option linter.unusedVariables false
set_option linter.unusedSimpArgs false
def bitv (x : Int) (t : Nat) : Int := wrap64 (bits .and .u8 (x / 2 ^ t) 1)
def allB (xs : List Int) (m : Nat) : List Int := (List.range m).map fun j => bitv (xs.getD (j / 8) 0) (j % 8)
theorem allB_succ (xs : List Int) (m : Nat) : allB xs (m + 1) = allB xs m ++ [bitv (xs.getD (m / 8) 0) (m % 8)] := by simp [allB, List.range_succ]
theorem allB_length (xs : List Int) (m : Nat) : (allB xs m).length = m := by simp [allB]
set_option maxRecDepth 100000 in
set_option maxHeartbeats 2000000 in
theorem bits1_in (F : Fence) (n : Nat) (hF : F.fn 78) (hro : F.round = none) (hn : 1 ≤ n) (l Bs n₀ c : Nat) (A : Option Addr) (xs : List Int) (w0 : World) (hC : Kd.C (Kd.int .u8) w0 A xs.length xs) (hlen : xs.length ≤ 1000000000000) (h0w : w0.heap.size = n₀) (J Jx : List Int → World → Prop)
    (hY : ∀ pre x W, J pre W → pre.length < 8 * xs.length → YieldAt F (n - 1) Try.prog l #[.int .i64 x] W fun e W' =>
      (e = .returned (.bool true) ∧ J (pre ++ [x]) W' ∧ Below n₀ W W') ∨ (e = .returned (.bool false) ∧ Jx (pre ++ [x]) W'))
    (W : World) (hW : Below n₀ w0 W) (hBs : W.cell? ⟨Bs, 0, none⟩ = some (.slice A xs.length c)) (h0 : J [] W) :
    CallsIn F n Try.prog 78 #[.func (.yield l) #[] #[], .pointer (some ⟨Bs, 0, none⟩)] W fun e W' => (∃ v, e = .returned v) ∧
      ((∃ ys, ys = allB xs (8 * xs.length) ∧ J ys W') ∨ (∃ pre, (∃ m, m ≤ 8 * xs.length ∧ pre = allB xs m) ∧ Jx pre W')) := by
  refine callsIn_of_wp Try.func78 rfl hF ?_ hro
  simp only [Try.ntmps78, List.size_toArray, List.length_cons, List.length_nil, Nat.reduceAdd, Nat.reduceSub, Array.replicate_succ, Array.replicate_zero, List.push_toArray, List.append_toArray, List.nil_append, List.cons_append]
  have HC := Aside0.mk hC
  have HY := Aside0.mk hY
  have h0w := Aside0.mk h0w
  clear hC hY
  gi_wp2
  gi_loopw [8] (fun v8 wr => ∃ i : Nat, v8 = .int .i64 i ∧ i ≤ xs.length ∧ Aside0 (J (allB xs (8 * i)) wr) ∧ Aside0 (Below n₀ w0 wr)) (fun v8 _ => xs.length - (intOf v8).toNat)
  case atStart => exact ⟨0, rfl, Nat.zero_le _, ⟨h0⟩, ⟨hW⟩⟩
  case round =>
    obtain ⟨i, rfl, hi, HJ, HB⟩ := hrel
    by_cases hlt : i < xs.length
    · obtain ⟨ad, rfl, hcell⟩ := c_at (Kd.C_below HC.out (by have := HB.out; rw [← h0w.out] at this; exact this)) (i : Int) (by omega) (by omega)
      have e : rd xs (i : Int) = xs.getD i 0 := rfl
      rw [e, show ((i : Int)).toNat = i from rfl] at hcell
      obtain ⟨x, hx⟩ : ∃ x, x = xs.getD i 0 := ⟨_, rfl⟩
      rw [← hx] at hcell
      have Hx := Aside0.mk hx
      clear e hx
      gi_wp2
      obtain ⟨wo, rfl⟩ : ∃ wo : World, wo = wr := ⟨_, rfl⟩
      gi_loopw [12] (fun v12 wr => ∃ t : Nat, v12 = .int .i64 t ∧ t ≤ 8 ∧ Aside0 (J (allB xs (8 * i + t)) wr) ∧ Aside0 (Below n₀ w0 wr)) (fun v12 _ => 8 - (intOf v12).toNat)
      case atStart => exact ⟨0, rfl, by omega, by simpa using HJ, HB⟩
      case round =>
        clear HJ HB hcell
        obtain ⟨t, rfl, ht, HJ, HB⟩ := hrel
        by_cases hlt8 : t < 8
        · obtain ⟨fn, tmps, assign, body, hy, hR⟩ := HY.out _ (bitv x t) wr HJ.out (by rw [allB_length]; omega)
          have hJ1 := Aside0.mk (show allB xs (8 * i + t) ++ [bitv x t] = allB xs (8 * i + (t + 1)) by rw [← Nat.add_assoc, allB_succ, Hx.out, show (8 * i + t) / 8 = i by omega, show (8 * i + t) % 8 = t by omega])
          have hml := Aside0.mk (show 8 * i + (t + 1) ≤ 8 * xs.length by omega)
          simp only [bitv] at hy
          clear HJ
          gi_wp2
          refine hR.mono ?_
          rintro e W3 (⟨rfl, hJ3, hk3⟩ | ⟨rfl, hJx3⟩)
          · rw [hJ1.out] at hJ3
            have HJ3 := Aside0.mk hJ3
            have HB3 := Aside0.mk (HB.out.trans hk3)
            clear hJ3 hk3
            gi_wp2
            go_roundw
            case rel => exact ⟨t + 1, by go_num, by omega, HJ3, HB3⟩
            case measure => simp [intOf]; omega
          · rw [hJ1.out] at hJx3
            have HJ3 := Aside0.mk hJx3
            clear hJx3
            gi_wp2
            refine bodyPost_ret (results_none rfl _ _ _) rfl ?_
            exact ⟨⟨_, rfl⟩, .inr ⟨_, ⟨8 * i + (t + 1), hml.out, rfl⟩, HJ3.out⟩⟩
        · obtain rfl : t = 8 := by omega
          gi_wp2
          go_roundw
          case rel => exact ⟨i + 1, by go_num, by omega, by rw [show 8 * (i + 1) = 8 * i + 8 by omega]; exact HJ, HB⟩
          case measure => simp [intOf]; omega
    · obtain rfl : i = xs.length := by omega
      gi_wp2
      go_end0
      exact ⟨⟨_, rfl⟩, .inl ⟨_, rfl, HJ.out⟩⟩
set_option maxHeartbeats 1000000 in
theorem bits_in (A : Option Addr) (c : Nat) (xs : List Int) (w : World) :
    Calls Try.prog 77 #[.slice A xs.length c] w fun e w' => e = .returned (.func (.func 78) #[] #[.pointer (some ⟨w.heap.size, 0, none⟩)]) ∧ w' = w.alloc (.cells #[.slice A xs.length c] 37) := by
  go_enter Try.func77, Try.ntmps77
  go_wp2
  go_ret
  exact ⟨rfl, rfl⟩
theorem bits_stops (F : Fence) (n : Nat) (hF : F.fn 78) (hro : F.round = none) (hn : 1 ≤ n) (Bs n₀ c : Nat) (A : Option Addr) (xs : List Int) (w0 w : World) (hC : Kd.C (Kd.int .u8) w0 A xs.length xs) (hlen : xs.length ≤ 1000000000000) (h0w : w0.heap.size = n₀) (hb : Below n₀ w0 w) (hBs : Bs < w.heap.size)
    (hc : w.cell? ⟨Bs, 0, none⟩ = some (.slice A xs.length c)) :
    SeqStopsK F n Try.prog 78 #[.pointer (some ⟨Bs, 0, none⟩)] (fun x : Int => #[Value.int .i64 x]) (Below n₀) (fun ys => ys = allB xs (8 * xs.length)) (fun pre => ∃ m, m ≤ 8 * xs.length ∧ pre = allB xs m) (8 * xs.length) w := fun l J Jx W hW _ _ hY h0 =>
  bits1_in F n hF hro hn l Bs n₀ c A xs w0 hC hlen h0w J Jx hY W (hb.trans (hW.mono (by have := hb.size; omega))) ((hW.cell (p := ⟨Bs, 0, none⟩) hBs).trans hc) h0
end Go.Proofs.Ytpibhiacmceekaa.X
end

section
namespace Go.Proofs.Ytpibhiacmceekaa.X
open Go.RowKit Go.Proofs.YtpibhiacmceekaaW.PrintWords Go.Proofs.YtpibhiacmceekaaW.PrintLast Go.Proofs.YtpibhiacmceekaaW.PrintMore
attribute [local go_sem] max2_int min2_int max_two min_two max_three min_three max_four min_four
set_option linter.unusedVariables false
set_option linter.unusedSimpArgs false
theorem size_drewN (w : World) (n : Nat) : (w.drewN n).heap.size = w.heap.size := rfl
theorem heap_alloc_at (w : World) (o : Obj) {g : Nat} (h : g = w.heap.size) : (w.alloc o).heap[g]? = some o := by subst h; exact blk_new w o
theorem named_in {F : Fence} {n : Nat} {P : Program} {Q : Exit → Act → World → Prop} {a : Act} {w : World} {c : Code} (h : ∀ W, W = w → c.wpIn F n P Q a W) : c.wpIn F n P Q a w := h _ rfl
def oneVar : TypeDesc → Bool
 | .struct _ | .array _ _ => false
 | _ => true
theorem run_loadVar_one {P : Program} {t : TypeId} {e : TypeDesc} {b : Addr} {x : Value} {w : World} (h1 : P.underlying t = some e) (h2 : oneVar e = true) (h3 : w.cell? b = some x) : (loadVar t b).run P w = .ok x w := by
 have hagg : (isAgg t).run P w = .ok false w := by
  unfold isAgg
  rw [Sem.run_bind, run_underlying h1 w]
  cases e <;> simp_all [oneVar]
 simp [loadVar, Sem.run_bind, hagg, go_sem, h3]
theorem wpList_named {P : Program} {ops : Array Oper} {Q : Exit → Act → World → Prop} {l : List Oper} {a : Act} {w : World} (h : ∀ Q', Aside0 (∀ a w, Q .normal a w → Q' .normal a w) → wpList P ops Q' l a w) : wpList P ops Q l a w := h Q ⟨fun _ _ h => h⟩
theorem results_v2 {P : Program} {fn : Func} {p p' : Tmp} {ty ty' : TypeId} (h : fn.results = #[.cell p ty, .cell p' ty']) {tmps : Array Value} {w : World} {a a' : Addr} {v v' : Value} (d d' : TypeDesc) (hu : P.underlying ty = some d) (hd : oneVar d = true) (hu' : P.underlying ty' = some d') (hd' : oneVar d' = true)
  (hp : tmps.getD p undef = .pointer (some a)) (hp' : tmps.getD p' undef = .pointer (some a')) (hv : w.cell? a = some v) (hv' : w.cell? a' = some v') : (results fn tmps).run P w = .ok (.tuple #[v, v']) w := by
 unfold results
 rw [h]
 simp only [List.mapM_toArray, Sem.run_bind, Sem.run_map, List.mapM_cons, List.mapM_nil, hp, hp', asAddr, Sem.run_pure, Result.andThen_ok, run_loadVar_one hu hd hv, run_loadVar_one hu' hd' hv']
 simp
theorem blk_own {W W' : World} {row : Option Nat} {B g t : Nat} {cs : Array Value} (h : W.heap[g]? = some (.cells cs t (0, 0))) (hg : W.grownBy W' row) (hr : ∀ r, row = some r → B ≤ r ∧ ∃ o : Obj, W.heap[r]? = some o ∧ o.isCells = false) : W'.heap[g]? = some (.cells cs t (0, 0)) := by
 refine blk_grown h hg fun e => ?_
 obtain ⟨_, o, ho, hc⟩ := hr g e.symm
 rw [h] at ho
 cases ho
 cases hc
theorem row_own {W W' : World} {row : Option Nat} {B : Nat} {base g e n cap : Nat} {xs : List Value} (h : W.ownsRow base e 1 (.slice (some ⟨g, 0, none⟩) n cap) n xs) (hg : W.grownBy W' row) (hr : ∀ r, row = some r → B ≤ r ∧ ∃ o : Obj, W.heap[r]? = some o ∧ o.isCells = false) : W'.ownsRow base e 1 (.slice (some ⟨g, 0, none⟩) n cap) n xs := by
 refine h.kept hg (.inr fun eq => ?_)
 obtain ⟨_, o, ho, hc⟩ := hr g eq.symm
 obtain ⟨cs, hcs⟩ := own_typed h g rfl
 rw [hcs] at ho
 cases ho
 cases hc
def ust (a1 : Int) (m : Nat) (s : List Int × Nat × Nat) (x : Int) : Option (List Int × Nat × Nat) :=
 if 0 < a1 ∧ s.2.1 < m then some (s.1.set s.2.1 (bits .or .u64 (rd s.1 (s.2.1 : Int)) (IntKind.u64.wrap (IntKind.u64.wrap x * 2 ^ s.2.2))), if (s.2.2 : Int) + 1 = a1 then (s.2.1 + 1, 0) else (s.2.1, s.2.2 + 1))
 else if x = 0 then some s else none
def urun (a1 : Int) (m : Nat) (ys : List Int) : Option (List Int × Nat × Nat) := ys.foldl (fun o x => o.bind fun s => ust a1 m s x) (some (List.replicate m 0, 0, 0))
theorem urun_snoc (a1 : Int) (m : Nat) (ys : List Int) (x : Int) : urun a1 m (ys ++ [x]) = (urun a1 m ys).bind fun s => ust a1 m s x := by simp [urun]
theorem urun_none (a1 : Int) (m : Nat) : ∀ (zs : List Int), zs.foldl (fun o x => o.bind fun s => ust a1 m s x) none = none
 | [] => rfl
 | z :: zs => urun_none a1 m zs
theorem urun_app (a1 : Int) (m : Nat) (ys zs : List Int) (h : urun a1 m ys = none) : urun a1 m (ys ++ zs) = none := by
 unfold urun at h ⊢
 rw [List.foldl_append, h, urun_none]
theorem allB_split {xs : List Int} {a b : Nat} (h : a ≤ b) : allB xs b = allB xs a ++ ((List.range (b - a)).map fun j => bitv (xs.getD ((a + j) / 8) 0) ((a + j) % 8)) := by
 obtain ⟨c, rfl⟩ : ∃ c, b = a + c := ⟨b - a, by omega⟩
 simp [allB, List.range_add, Function.comp_def]
def bits_Unpack.f (k : Nat) (l0 : List Int) (a1 a2 : Int) : Option (List Int × Int) :=
 (bits_Size.f k a1 a2).bind fun s => if s.2 = 0 then (if (l0.length : Int) < s.1 then some ([], 6) else if s.1 < (l0.length : Int) then some ([], 7) else
  if 0 ≤ a1 ∧ a1 ≤ 64 ∧ 0 ≤ a2 ∧ a2 ≤ 1048576 ∧ l0.length ≤ 1048576 then some (match urun a1 a2.toNat (allB l0 (8 * l0.length)) with | some r => (r.1, 0) | none => ([], 8)) else none) else some ([], s.2)
theorem bits_Unpack.mono : ∀ l0 a1 a2 k, LeO (bits_Unpack.f k l0 a1 a2) (bits_Unpack.f (k + 1) l0 a1 a2) := by
 intro l0 a1 a2 k
 unfold bits_Unpack.f
 exact LeO.bind (bits_Size.mono _ _ _) (fun _ => LeO.refl _)
def UnH (w : World) (a1 : Int) (m : Nat) (out : List Int) (k t : Nat) (W : World) : Prop :=
 W.heap[w.heap.size]? = some (.cells #[.int .i64 a1] 3 (0, 0)) ∧ W.heap[w.heap.size + 1]? = some (.cells #[.int .i64 m] 3 (0, 0)) ∧
  W.heap[w.heap.size + 2]? = some (.cells #[.slice none 0 0] 65 (0, 0)) ∧ W.heap[w.heap.size + 3]? = some (.cells #[.int .i64 0] 24 (0, 0)) ∧
  W.ownsRow w.heap.size 61 1 (.slice (some ⟨w.heap.size + 4, 0, none⟩) m m) m (nums .u64 out) ∧ W.heap[w.heap.size + 5]? = some (.cells #[.slice (some ⟨w.heap.size + 4, 0, none⟩) m m] 65 (0, 0)) ∧
  W.heap[w.heap.size + 6]? = some (.cells #[.int .i64 k] 3 (0, 0)) ∧ W.heap[w.heap.size + 7]? = some (.cells #[.int .i64 t] 3 (0, 0)) ∧ Below w.heap.size w W
theorem un_H {w : World} {a1 : Int} {m : Nat} {out : List Int} {k t : Nat} {W : World} (g0 : W.heap[w.heap.size]? = some (.cells #[.int .i64 a1] 3 (0, 0))) (g1 : W.heap[w.heap.size + 1]? = some (.cells #[.int .i64 m] 3 (0, 0)))
  (g2 : W.heap[w.heap.size + 2]? = some (.cells #[.slice none 0 0] 65 (0, 0))) (g3 : W.heap[w.heap.size + 3]? = some (.cells #[.int .i64 0] 24 (0, 0)))
  (g4 : W.ownsRow w.heap.size 61 1 (.slice (some ⟨w.heap.size + 4, 0, none⟩) m m) m (nums .u64 out)) (g5 : W.heap[w.heap.size + 5]? = some (.cells #[.slice (some ⟨w.heap.size + 4, 0, none⟩) m m] 65 (0, 0)))
  (g6 : W.heap[w.heap.size + 6]? = some (.cells #[.int .i64 k] 3 (0, 0))) (g7 : W.heap[w.heap.size + 7]? = some (.cells #[.int .i64 t] 3 (0, 0))) (hb : Below w.heap.size w W) : UnH w a1 m out k t W := ⟨g0, g1, g2, g3, g4, g5, g6, g7, hb⟩
theorem un_set7 {w : World} {a1 x : Int} {m : Nat} {out : List Int} {k t : Nat} {W : World} (t' : Nat) (h : UnH w a1 m out k t W) (hx : x = (t' : Int)) : UnH w a1 m out k t' (W.setCell ⟨w.heap.size + 1 + 1 + 1 + 1 + 1 + 1 + 1, 0, none⟩ (.int .i64 x)) := by
 subst hx
 obtain ⟨g0, g1, g2, g3, g4, g5, g6, g7, hb⟩ := h
 have d : ∀ {j : Nat}, j < w.heap.size + 7 → j ≠ (⟨w.heap.size + 1 + 1 + 1 + 1 + 1 + 1 + 1, 0, none⟩ : Addr).block := fun h e => by simp only [] at e; omega
 refine ⟨blk_far g0 (d (by omega)) _, blk_far g1 (d (by omega)) _, blk_far g2 (d (by omega)) _, blk_far g3 (d (by omega)) _, own_setCell g4 (fun e => ?_) _, blk_far g5 (d (by omega)) _, blk_far g6 (d (by omega)) _, ?_, hb.setCell (by simp only []; omega) _⟩
 ·injection e with e
  exact d (j := w.heap.size + 4) (by omega) e.symm
 ·exact blk_set g7 0 _
theorem un_set6 {w : World} {a1 x : Int} {m : Nat} {out : List Int} {k t : Nat} {W : World} (k' : Nat) (h : UnH w a1 m out k t W) (hx : x = (k' : Int)) : UnH w a1 m out k' t (W.setCell ⟨w.heap.size + 1 + 1 + 1 + 1 + 1 + 1, 0, none⟩ (.int .i64 x)) := by
 subst hx
 obtain ⟨g0, g1, g2, g3, g4, g5, g6, g7, hb⟩ := h
 have d : ∀ {j : Nat}, j ≠ w.heap.size + 6 → j ≠ (⟨w.heap.size + 1 + 1 + 1 + 1 + 1 + 1, 0, none⟩ : Addr).block := fun h e => by simp only [] at e; omega
 refine ⟨blk_far g0 (d (by omega)) _, blk_far g1 (d (by omega)) _, blk_far g2 (d (by omega)) _, blk_far g3 (d (by omega)) _, own_setCell g4 (fun e => ?_) _, blk_far g5 (d (by omega)) _, ?_, blk_far g7 (d (by omega)) _, hb.setCell (by simp only []; omega) _⟩
 ·injection e with e
  exact d (j := w.heap.size + 4) (by omega) e.symm
 ·exact blk_set g6 0 _
def UnI (w : World) (a1 : Int) (m : Nat) (pre : List Int) (W : World) : Prop :=
 ∃ (out : List Int) (k t : Nat), urun a1 m pre = some (out, k, t) ∧ out.length = m ∧ k ≤ m ∧ (0 < a1 → (t : Int) < a1) ∧ t ≤ 64 ∧
  UnH w a1 m out k t W
def UnX (w : World) (a1 : Int) (m : Nat) (c : Code) (pre : List Int) (W : World) : Prop :=
 c = .ret ∧ urun a1 m pre = none ∧ W.heap[w.heap.size + 2]? = some (.cells #[.slice none 0 0] 65 (0, 0)) ∧ W.heap[w.heap.size + 3]? = some (.cells #[.int .i64 8] 24 (0, 0)) ∧ Below w.heap.size w W
theorem UnI_own (w : World) (a1 : Int) (m B : Nat) (hB : w.heap.size ≤ B) : OwnFrom B (UnI w a1 m) := by
 rintro pre W W' row ⟨out, k, t, h1, h2, h3, h4, h5, g0, g1, g2, g3, g4, g5, g6, g7, hb⟩ hg hr
 exact ⟨out, k, t, h1, h2, h3, h4, h5, blk_own g0 hg hr, blk_own g1 hg hr, blk_own g2 hg hr, blk_own g3 hg hr, row_own g4 hg hr, blk_own g5 hg hr, blk_own g6 hg hr, blk_own g7 hg hr, hb.grown hg hb.size (fun r e => Nat.le_trans hB (hr r e).1)⟩
theorem UnX_own (w : World) (a1 : Int) (m B : Nat) (hB : w.heap.size ≤ B) (c : Code) : OwnFrom B (UnX w a1 m c) := by
 rintro pre W W' row ⟨h1, h2, g2, g3, hb⟩ hg hr
 exact ⟨h1, h2, blk_own g2 hg hr, blk_own g3 hg hr, hb.grown hg hb.size (fun r e => Nat.le_trans hB (hr r e).1)⟩
theorem un_left {w W : World} {a1 : Int} {m B : Nat} {ys : List Int} (g2 : W.heap[w.heap.size + 2]? = some (.cells #[.slice none 0 0] 65 (0, 0))) (g3 : W.heap[w.heap.size + 3]? = some (.cells #[.int .i64 0] 24 (0, 0))) (hb : Below w.heap.size w W) (hn : urun a1 m ys = none) :
  KeepsFrom B W ((W.setCell ⟨w.heap.size + 1 + 1, 0, none⟩ (.slice none 0 0)).setCell ⟨w.heap.size + 1 + 1 + 1, 0, none⟩ (.int .i64 8)) ∧ UnX w a1 m .ret ys ((W.setCell ⟨w.heap.size + 1 + 1, 0, none⟩ (.slice none 0 0)).setCell ⟨w.heap.size + 1 + 1 + 1, 0, none⟩ (.int .i64 8)) := by
 refine ⟨((KeepsOthers.setCell _ _ _).trans (KeepsOthers.setCell _ _ _)).from _, rfl, hn, ?_, ?_, (hb.setCell (by simp only []; omega) _).setCell (by simp only []; omega) _⟩
 ·exact blk_far (blk_set g2 0 _) (by simp only []; omega) _
 ·exact blk_set (blk_far g3 (by simp only []; omega) _) 0 _
theorem un_end {w W : World} {m D : Nat} {out : List Int} (h2 : out.length = m) (hD : w.heap.size ≤ D) (g2 : W.heap[w.heap.size + 2]? = some (.cells #[.slice none 0 0] 65 (0, 0))) (g3 : W.heap[w.heap.size + 3]? = some (.cells #[.int .i64 0] 24 (0, 0)))
  (g4 : W.ownsRow w.heap.size 61 1 (.slice (some ⟨w.heap.size + 4, 0, none⟩) m m) m (nums .u64 out)) (hb : Below w.heap.size w W) (hK : W.heap[D]? = some (.deferred (some []))) (W5 : World)
  (h5 : W5 = (W.setCell ⟨w.heap.size + 1 + 1, 0, none⟩ (.slice (some ⟨w.heap.size + 4, 0, none⟩) m m)).setCell ⟨w.heap.size + 1 + 1 + 1, 0, none⟩ (.int .i64 0)) :
  W5.heap[D]? = some (.deferred (some [])) ∧ (W5.putObj D (.deferred none)).cell? ⟨w.heap.size + 1 + 1, 0, none⟩ = some (.slice (some ⟨w.heap.size + 4, 0, none⟩) m m) ∧ (W5.putObj D (.deferred none)).cell? ⟨w.heap.size + 1 + 1 + 1, 0, none⟩ = some (.int .i64 0) ∧
   Kd.R (Kd.int .u64) 61 (W5.putObj D (.deferred none)) w.heap.size (fun _ => True) (.slice (some ⟨w.heap.size + 4, 0, none⟩) m m) out ∧ Below w.heap.size w (W5.putObj D (.deferred none)) := by
 have hK' : W5.heap[D]? = some (.deferred (some [])) := by rw [h5]; exact ((KeepsOthers.setCell _ _ _).trans (KeepsOthers.setCell _ _ _)).same D _ hK rfl
 have a2 : W5.heap[w.heap.size + 2]? = some (.cells #[.slice (some ⟨w.heap.size + 4, 0, none⟩) m m] 65 (0, 0)) := by rw [h5]; exact blk_far (blk_set g2 0 _) (by simp only []; omega) _
 have a3 : W5.heap[w.heap.size + 3]? = some (.cells #[.int .i64 0] 24 (0, 0)) := by rw [h5]; exact blk_set (blk_far g3 (by simp only []; omega) _) 0 _
 have a4 : W5.ownsRow w.heap.size 61 1 (.slice (some ⟨w.heap.size + 4, 0, none⟩) m m) m (nums .u64 out) := by
  rw [h5]
  refine own_setCell (own_setCell g4 (fun e => ?_) _) (fun e => ?_) _ <;> (injection e with e; simp only [] at e; omega)
 have a5 : Below w.heap.size w W5 := by rw [h5]; exact (hb.setCell (by simp only []; omega) _).setCell (by simp only []; omega) _
 clear h5 g2 g3 g4 hb hK
 refine ⟨hK', cell_kept (blk_cell a2 0) (grownBy_putObj' _ D (.deferred none)) (fun r e => by cases e; exact ⟨_, hK', rfl⟩), cell_kept (blk_cell a3 0) (grownBy_putObj' _ D (.deferred none)) (fun r e => by cases e; exact ⟨_, hK', rfl⟩), ?_, a5.trans (belowK_b (w := w) (Nat.le_refl _) _ D _ _ hD hK' rfl rfl)⟩
 subst h2
 exact Kd.R_of_own (enc := Value.int .u64) (h1 := fun _ => rfl) (ownsRow_putObj a4 _ hK' rfl) (fun _ _ => trivial)
theorem un_halt {w W : World} {D : Nat} (hD : w.heap.size ≤ D) (g2 : W.heap[w.heap.size + 2]? = some (.cells #[.slice none 0 0] 65 (0, 0))) (g3 : W.heap[w.heap.size + 3]? = some (.cells #[.int .i64 8] 24 (0, 0)))
  (hb : Below w.heap.size w W) (hK : W.heap[D]? = some (.deferred (some []))) :
  (W.putObj D (.deferred none)).cell? ⟨w.heap.size + 1 + 1, 0, none⟩ = some (.slice none 0 0) ∧ (W.putObj D (.deferred none)).cell? ⟨w.heap.size + 1 + 1 + 1, 0, none⟩ = some (.int .i64 8) ∧ Below w.heap.size w (W.putObj D (.deferred none)) :=
 ⟨cell_kept (blk_cell g2 0) (grownBy_putObj' _ D (.deferred none)) (fun r e => by cases e; exact ⟨_, hK, rfl⟩), cell_kept (blk_cell g3 0) (grownBy_putObj' _ D (.deferred none)) (fun r e => by cases e; exact ⟨_, hK, rfl⟩), hb.trans (belowK_b (w := w) (Nat.le_refl _) _ D _ _ hD hK rfl rfl)⟩
section
attribute [local go_sem] Oper.semAt_some
set_option maxRecDepth 100000 in
set_option maxHeartbeats 4000000 in
theorem un_main (k : Nat) (A0 : Option Addr) (c0 : Nat) (l0 : List Int) (a1 a2 s1 : Int) (w : World) (hr0 : Kd.C (Kd.int .u8) w A0 l0.length l0) (hc0 : l0.length ≤ c0) (hs : bits_Size.f k a1 a2 = some (s1, 0)) (h1 : ¬ (l0.length : Int) < s1) (h2 : ¬ s1 < (l0.length : Int)) (hw0 : 0 ≤ a1) (hw1 : a1 ≤ 64) (hn0 : 0 ≤ a2) (hn1 : a2 ≤ 1048576) (hl : l0.length ≤ 1048576) (r1 : List Int) (r2 : Int)
  (h : (match urun a1 a2.toNat (allB l0 (8 * l0.length)) with | some r => (r.1, 0) | none => ([], 8)) = (r1, r2)) (n : Nat) (hn : 4 ≤ n) :
  CallsIn Fence.wide n Try.prog 75 #[.slice A0 l0.length c0, .int .i64 a1, .int .i64 a2] w fun e w' => ∃ v0_ : Value, e = .returned (.tuple #[v0_, .int .i64 r2]) ∧ Kd.R (Kd.int .u64) 61 w' w.heap.size (fun _ => True) v0_ r1 ∧ Below w.heap.size w w' := by
 have hro : Fence.wide.round = none := rfl
 have HR0 := Aside0.mk hr0
 have Hs := Aside0.mk hs
 have h1n : 1 ≤ n := by omega
 have hn2 := Aside0.mk (show 1 ≤ n - 1 by omega)
 clear hr0 hs
 have h1b := decide_eq_false h1
 have h2b := decide_eq_false h2
 clear h1 h2
 obtain ⟨m, rfl⟩ := Int.eq_ofNat_of_zero_le hn0
 rw [show ((m : Int)).toNat = m from rfl] at h
 have H := Aside0.mk h
 clear h
 have hmk := print_make_int (P := Try.prog) 65 61 (.int .u64 0) 8 (by kernel_rfl) (by kernel_rfl) rfl (by decide) (m : Int) hn0 (by omega)
 rw [show ((m : Int)).toNat = m from rfl] at hmk
 refine callsIn_of_wp_marks Try.func75 rfl trivial ?_ hro
 simp only [Try.ntmps75, List.size_toArray, List.length_cons, List.length_nil, Nat.reduceAdd, Nat.reduceSub, Array.replicate_succ, Array.replicate_zero, List.push_toArray, List.append_toArray, List.nil_append, List.cons_append]
 gi_wp2_with (refine ⟨trivial, ?_⟩; first | (gi_at_call 55; refine (callsIn_wide.2 (bits_Size.calls k a1 m s1 0 _ Hs.out)).mono ?_; rintro e w' ⟨rfl, ⟨nd, rfl⟩⟩) | (gi_at_call 77; refine (callsIn_wide.2 (bits_in A0 c0 l0 _)).mono ?_; rintro e w' ⟨rfl, rfl⟩))
 clear hmk
 refine named_in fun W0 hW0 => ?_
 have f0 : W0.heap[w.heap.size]? = some (.cells #[.int .i64 a1] 3 (0,0)) := by rw [hW0]; repeat (first | (refine heap_alloc_at _ _ ?_; ((try simp only [World.size_alloc, World.size_setCell, size_drewN]) <;> omega)) | (refine blk_alloc ?_ _) | (refine blk_drewN ?_ _))
 have f1 : W0.heap[w.heap.size + 1]? = some (.cells #[.int .i64 m] 3 (0,0)) := by rw [hW0]; repeat (first | (refine heap_alloc_at _ _ ?_; ((try simp only [World.size_alloc, World.size_setCell, size_drewN]) <;> omega)) | (refine blk_alloc ?_ _) | (refine blk_drewN ?_ _))
 have f2 : W0.heap[w.heap.size + 2]? = some (.cells #[.slice none 0 0] 65 (0,0)) := by rw [hW0]; repeat (first | (refine heap_alloc_at _ _ ?_; ((try simp only [World.size_alloc, World.size_setCell, size_drewN]) <;> omega)) | (refine blk_alloc ?_ _) | (refine blk_drewN ?_ _))
 have f3 : W0.heap[w.heap.size + 3]? = some (.cells #[.int .i64 0] 24 (0,0)) := by rw [hW0]; repeat (first | (refine heap_alloc_at _ _ ?_; ((try simp only [World.size_alloc, World.size_setCell, size_drewN]) <;> omega)) | (refine blk_alloc ?_ _) | (refine blk_drewN ?_ _))
 have f4 : W0.heap[w.heap.size + 4]? = some (.cells (madeCells #[Value.int IntKind.u64 0] m) 61 (0,0)) := by rw [hW0]; repeat (first | (refine heap_alloc_at _ _ ?_; ((try simp only [World.size_alloc, World.size_setCell, size_drewN]) <;> omega)) | (refine blk_alloc ?_ _) | (refine blk_drewN ?_ _))
 have f5 : W0.heap[w.heap.size + 5]? = some (.cells #[.slice (some ⟨w.heap.size + 4, 0, none⟩) m m] 65 (0,0)) := by rw [hW0]; repeat (first | (refine heap_alloc_at _ _ ?_; ((try simp only [World.size_alloc, World.size_setCell, size_drewN]) <;> omega)) | (refine blk_alloc ?_ _) | (refine blk_drewN ?_ _))
 have f6 : W0.heap[w.heap.size + 6]? = some (.cells #[.int .i64 0] 3 (0,0)) := by rw [hW0]; repeat (first | (refine heap_alloc_at _ _ ?_; ((try simp only [World.size_alloc, World.size_setCell, size_drewN]) <;> omega)) | (refine blk_alloc ?_ _) | (refine blk_drewN ?_ _))
 have f7 : W0.heap[w.heap.size + 7]? = some (.cells #[.int .i64 0] 3 (0,0)) := by rw [hW0]; repeat (first | (refine heap_alloc_at _ _ ?_; ((try simp only [World.size_alloc, World.size_setCell, size_drewN]) <;> omega)) | (refine blk_alloc ?_ _) | (refine blk_drewN ?_ _))
 have f8 : W0.heap[w.heap.size + 8]? = some (.cells #[.slice A0 l0.length c0] 37 (0,0)) := by rw [hW0]; repeat (first | (refine heap_alloc_at _ _ ?_; ((try simp only [World.size_alloc, World.size_setCell, size_drewN]) <;> omega)) | (refine blk_alloc ?_ _) | (refine blk_drewN ?_ _))
 have hb : Below w.heap.size w W0 := by rw [hW0]; repeat (first | exact Below.refl _ _ | (refine below_alloc ?_ _) | (refine pw_below_drewN ?_ _))
 have hsz : W0.heap.size = w.heap.size + 9 := by rw [hW0]; simp only [World.size_alloc, size_drewN]
 have frow : W0.ownsRow w.heap.size 61 1 (.slice (some ⟨w.heap.size + 4, 0, none⟩) m m) m (nums .u64 (List.replicate m 0)) := by
  have ho := own_made w w.heap.size 61 .u64 m (Nat.le_refl _) (by omega)
  refine ⟨ho.1, .inr ⟨w.heap.size + 4, m, _, rfl, by omega, f4, Nat.le_refl _, by simp [maxLen]; omega, by simp [size_madeCells], ?_⟩⟩
  rw [Nat.mul_one, List.take_of_length_le (by simp [size_madeCells])]
  apply List.ext_getElem
  ·simp [nums, madeCells]
  ·intro i h1 h2
   simp [nums, madeCells, Nat.mod_one]
 have FI := Aside0.mk (show UnI w a1 m [] W0 from ⟨List.replicate m 0, 0, 0, rfl, by simp, Nat.zero_le _, fun h => h, by omega, f0, f1, f2, f3, frow, f5, f6, f7, hb⟩)
 have HB := Aside0.mk hb
 have F8 := Aside0.mk (show W0.cell? ⟨w.heap.size + 8, 0, none⟩ = some (.slice A0 l0.length c0) from blk_cell f8 0)
 clear hW0 f0 f1 f2 f3 f4 f5 f6 f7 f8 hb frow
 refine wpIn_rangeFunc_ownG hro h1n (gf := 78) (lb := #[.pointer (some ⟨w.heap.size + 8, 0, none⟩)]) rfl trivial (enters_of Try.func78 (by kernel_rfl) rfl)
  (bits_stops Fence.wide (n - 1) trivial hro hn2.out (w.heap.size + 8) w.heap.size c0 A0 l0 w W0 HR0.out (by omega) rfl HB.out (by omega) F8.out) belowK_t (belowK_b (by omega)) (Below.refl _ _) (fun _ => rfl)
  (UnI w a1 m) (UnX w a1 m) (UnI_own w a1 m _ (by omega)) (UnX_own w a1 m _ (by omega)) FI.out ?a1 ?assign ?body ?done ?stop
 case assign =>
  intro l x W K hK
  gi_wp2
  exact hK
 case body =>
  rintro l pre x W ⟨out, k, t, h1, h2, h3, h4, h5, g0, g1, g2, g3, g4, g5, g6, g7, hb⟩ hlen
  clear F8 FI HB H HR0 Hs
  have c0 := blk_cell g0 0
  have c1 := blk_cell g1 0
  have c6 := blk_cell g6 0
  have c7 := blk_cell g7 0
  have F6 := blk_frozen g6 0
  have F7 := blk_frozen g7 0
  have hsn := urun_snoc a1 m pre x
  rw [h1, Option.bind_some] at hsn
  simp only [ust] at hsn
  by_cases hp : 0 < a1
  ·have hpb := decide_eq_true hp
   by_cases hk : k < m
   ·rw [if_pos ⟨hp, hk⟩] at hsn
    have hkb := decide_eq_true (show (k : Int) < (m : Int) by omega)
    gi_wp2
    rename_i K1 hK1
    have cr := (own_at g4 (k : Int) (by omega) (by omega)).1
    have fr := (own_at g4 (k : Int) (by omega) (by omega)).2
    rw [show ((k : Int)).toNat = k from rfl] at cr fr
    have c5 := blk_cell g5 0
    obtain ⟨y, hy⟩ : ∃ y, y = rd out (k : Int) := ⟨_, rfl⟩
    rw [← hy] at cr hsn
    clear hy
    refine region_tail_in 10 (by kernel_rfl) (by kernel_rfl) (by kernel_rfl) (fun w3 hw3 => ?_)
    simp only [List.take_succ_cons, List.take_zero, List.drop_succ_cons, List.drop_zero]
    have d5 : w3.cell? ⟨w.heap.size + 1 + 1 + 1 + 1 + 1, 0, none⟩ = some (.slice (some ⟨w.heap.size + 4, 0, none⟩) m m) := by rw [hw3]; exact c5
    have d6 : w3.cell? ⟨w.heap.size + 1 + 1 + 1 + 1 + 1 + 1, 0, none⟩ = some (.int .i64 k) := by rw [hw3]; exact c6
    have d7 : w3.cell? ⟨w.heap.size + 1 + 1 + 1 + 1 + 1 + 1 + 1, 0, none⟩ = some (.int .i64 t) := by rw [hw3]; exact c7
    have dr : w3.cell? ⟨w.heap.size + 4, k, none⟩ = some (.int .u64 y) := by rw [hw3]; exact cr
    have dfr : w3.frozen? ⟨w.heap.size + 4, k, none⟩ = false := by rw [hw3]; exact fr
    have e1 : 0 ≤ (k : Int) := by omega
    have e2 : (k : Int) < m := by omega
    have e3 : ((k : Int)).toNat = k := rfl
    have e4 : ((t : Int)).toNat = t := rfl
    have e5 : 0 ≤ (t : Int) := by omega
    repeat still_step
    refine wpStill_nil ?_
    clear e1 e2 e3 e4 e5 d5 d6 d7 dr
    refine wpList_named fun Q' hQ' => ?_
    go_wp2
    refine hQ'.out _ _ ⟨trivial, ?_⟩
    clear hQ' Q'
    obtain ⟨z, hz⟩ : ∃ z, z = bits .or .u64 y (IntKind.u64.wrap (IntKind.u64.wrap x * 2 ^ t)) := ⟨_, rfl⟩
    rw [← hz] at hsn ⊢
    simp only [Exit.then]
    refine hK1 _ _ ?_
    refine named_in fun W4 hW4 => ?_
    clear dfr c0 c1 c5 c6 c7 F6 F7 fr cr
    have go := own_store (k := .u64) g4 (k : Int) z
    rw [show ((k : Int)).toNat = k from rfl] at go
    have q : ∀ {j : Nat} {t : Nat} {cs : Array Value}, W.heap[j]? = some (.cells cs t (0, 0)) → j ≠ w.heap.size + 4 → W4.heap[j]? = some (.cells cs t (0, 0)) := fun {j t cs} hj hne => by rw [hW4]; exact blk_drew (blk_far hj (by simpa using hne) _)
    have hb4 : Below w.heap.size w W4 := by rw [hW4]; exact below_drew1 (hb.setCell (p := ⟨w.heap.size + 4, k, none⟩) (by simp) _)
    have hb4' : Below w.heap.size W W4 := by rw [hW4]; exact below_drew1 ((Below.refl _ W).setCell (p := ⟨w.heap.size + 4, k, none⟩) (by simp) _)
    have hk4 : KeepsOthers W W4 := by rw [hW4]; exact (KeepsOthers.setCell _ _ _).trans (KeepsOthers.drew _)
    have g4' : W4.ownsRow w.heap.size 61 1 (.slice (some ⟨w.heap.size + 4, 0, none⟩) m m) m (nums .u64 (out.set k z)) := by rw [hW4]; exact go.1.drew
    replace g0 := q g0 (by omega)
    replace g1 := q g1 (by omega)
    replace g2 := q g2 (by omega)
    replace g3 := q g3 (by omega)
    replace g5 := q g5 (by omega)
    replace g6 := q g6 (by omega)
    replace g7 := q g7 (by omega)
    clear q hW4 hw3 g4 go hz
    have c0 := blk_cell g0 0
    have c6 := blk_cell g6 0
    have c7 := blk_cell g7 0
    have F6 := blk_frozen g6 0
    have F7 := blk_frozen g7 0
    have ht := h4 hp
    clear h1 h4
    by_cases he : (t : Int) + 1 = a1
    ·rw [if_pos he] at hsn
     have heb : ((t : Int) + 1 == a1) = true := by simpa using he
     gi_wp2
     have HU := un_set7 (x := 0) 0 (un_set6 (x := (k : Int) + 1) (k + 1) (un_set7 (x := a1) (t + 1) (un_H g0 g1 g2 g3 g4' g5 g6 g7 hb4) (by omega)) (by omega)) (by omega)
     refine ⟨?_, ?_, _, _, _, hsn, by simp [h2], by omega, fun _ => by simpa using hp, by omega, HU⟩
     ·exact (hk4.trans ((KeepsOthers.setCell _ _ _).trans ((KeepsOthers.setCell _ _ _).trans (KeepsOthers.setCell _ _ _)))).from _
     ·exact hb4'.trans ((((Below.refl _ _).setCell (by simp; omega) _).setCell (by simp; omega) _).setCell (by simp; omega) _)
    ·rw [if_neg he] at hsn
     have heb : ((t : Int) + 1 == a1) = false := by simpa using he
     gi_wp2
     have HU := un_set7 (x := (t : Int) + 1) (t + 1) (un_H g0 g1 g2 g3 g4' g5 g6 g7 hb4) (by omega)
     refine ⟨?_, ?_, _, _, _, hsn, by simp [h2], by omega, fun _ => by omega, by omega, HU⟩
     ·exact (hk4.trans (KeepsOthers.setCell _ _ _)).from _
     ·exact hb4'.trans ((Below.refl _ _).setCell (by simp; omega) _)
   ·have hkb := decide_eq_false (show ¬ (k : Int) < (m : Int) by omega)
    rw [if_neg (fun h => hk h.2)] at hsn
    by_cases hx : x = 0
    ·rw [if_pos hx] at hsn
     have hxb : (x != 0) = false := by simpa using hx
     clear hx
     gi_wp2
     exact ⟨(KeepsOthers.refl W).from _, Below.refl _ W, _, _, _, hsn, h2, h3, h4, h5, un_H g0 g1 g2 g3 g4 g5 g6 g7 hb⟩
    ·rw [if_neg hx] at hsn
     have hxb : (x != 0) = true := by simpa using hx
     clear hx
     have F2 := blk_frozen g2 0
     have F3 := blk_frozen g3 0
     have c2 := blk_cell g2 0
     have c3 := blk_cell g3 0
     gi_wp2
     exact un_left g2 g3 hb hsn
  ·have hpb := decide_eq_false hp
   rw [if_neg (fun h => hp h.1)] at hsn
   by_cases hx : x = 0
   ·rw [if_pos hx] at hsn
    have hxb : (x != 0) = false := by simpa using hx
    clear hx
    gi_wp2
    exact ⟨(KeepsOthers.refl W).from _, Below.refl _ W, _, _, _, hsn, h2, h3, h4, h5, un_H g0 g1 g2 g3 g4 g5 g6 g7 hb⟩
   ·rw [if_neg hx] at hsn
    have hxb : (x != 0) = true := by simpa using hx
    clear hx
    have F2 := blk_frozen g2 0
    have F3 := blk_frozen g3 0
    have c2 := blk_cell g2 0
    have c3 := blk_cell g3 0
    gi_wp2
    exact un_left g2 g3 hb hsn
 case done =>
  rintro D ys W hD rfl ⟨out, k, t, h1, h2, h3, h4, h5, g0, g1, g2, g3, g4, g5, g6, g7, hb⟩ hK
  rw [h1] at H
  obtain ⟨rfl, rfl⟩ : out = r1 ∧ 0 = r2 := by simpa using H.out
  clear H h1 FI F8
  have c5 := blk_cell g5 0
  have F2 := blk_frozen g2 0
  have F3 := blk_frozen g3 0
  have c2 := blk_cell g2 0
  have c3 := blk_cell g3 0
  gi_wp2
  obtain ⟨hK', q2, q3, q4, q5⟩ := un_end h2 (by omega) g2 g3 g4 hb hK _ rfl
  refine ⟨by simp, .inl ⟨_, _, rfl, run_takeDeferred hK', ?_⟩⟩
  exact ⟨_, results_v2 rfl (.slice 61) (.int .i64) (by kernel_rfl) rfl (by kernel_rfl) rfl rfl rfl q2 q3, _, rfl, q4, q5⟩
 case stop =>
  rintro D c pre W hD ⟨mm, hmm, rfl⟩ ⟨rfl, h2, g2, g3, hb⟩ hK
  obtain ⟨q2, q3, q5⟩ := un_halt (by omega) g2 g3 hb hK
  rw [allB_split hmm, urun_app _ _ _ _ h2] at H
  obtain ⟨rfl, rfl⟩ : [] = r1 ∧ 8 = r2 := by simpa using H.out
  clear H FI F8
  gi_wp2
  refine ⟨by simp, .inl ⟨_, _, rfl, run_takeDeferred hK, ?_⟩⟩
  exact ⟨_, results_v2 rfl (.slice 61) (.int .i64) (by kernel_rfl) rfl (by kernel_rfl) rfl rfl rfl q2 q3, _, rfl, Kd.R_nil _ _ _ _ _, q5⟩
end
theorem un_badw (w : World) (a1 a2 r : Int) (nd : Nat) (W5 : World) (h5 : W5 = ((((((w.alloc (.cells #[.int .i64 a1] 3)).alloc (.cells #[.int .i64 a2] 3)).alloc (.cells #[.slice none 0 0] 65)).alloc (.cells #[.int .i64 0] 24)).drewN nd).setCell ⟨w.heap.size + 1 + 1, 0, none⟩ (.slice none 0 0)).setCell ⟨w.heap.size + 1 + 1 + 1, 0, none⟩ (.int .i64 r)) :
  W5.cell? ⟨w.heap.size + 1 + 1, 0, none⟩ = some (.slice none 0 0) ∧ W5.cell? ⟨w.heap.size + 1 + 1 + 1, 0, none⟩ = some (.int .i64 r) ∧ Below w.heap.size w W5 := by
 obtain ⟨W, hW⟩ : ∃ W, W = ((((w.alloc (.cells #[.int .i64 a1] 3)).alloc (.cells #[.int .i64 a2] 3)).alloc (.cells #[.slice none 0 0] 65)).alloc (.cells #[.int .i64 0] 24)).drewN nd := ⟨_, rfl⟩
 rw [← hW] at h5
 have g2 : W.heap[w.heap.size + 2]? = some (.cells #[.slice none 0 0] 65 (0,0)) := by rw [hW]; repeat (first | (refine heap_alloc_at _ _ ?_; ((try simp only [World.size_alloc, World.size_setCell, size_drewN]) <;> omega)) | (refine blk_alloc ?_ _) | (refine blk_drewN ?_ _))
 have g3 : W.heap[w.heap.size + 3]? = some (.cells #[.int .i64 0] 24 (0,0)) := by rw [hW]; repeat (first | (refine heap_alloc_at _ _ ?_; ((try simp only [World.size_alloc, World.size_setCell, size_drewN]) <;> omega)) | (refine blk_alloc ?_ _) | (refine blk_drewN ?_ _))
 have hb : Below w.heap.size w W := by rw [hW]; repeat (first | exact Below.refl _ _ | (refine below_alloc ?_ _) | (refine pw_below_drewN ?_ _))
 have a2 : W5.heap[w.heap.size + 2]? = some (.cells #[.slice none 0 0] 65 (0, 0)) := by rw [h5]; exact blk_far (blk_set g2 0 _) (by simp only []; omega) _
 have a3 : W5.heap[w.heap.size + 3]? = some (.cells #[.int .i64 r] 24 (0, 0)) := by rw [h5]; exact blk_set (blk_far g3 (by simp only []; omega) _) 0 _
 exact ⟨blk_cell a2 0, blk_cell a3 0, by rw [h5]; exact (hb.setCell (by simp only []; omega) _).setCell (by simp only []; omega) _⟩
set_option maxHeartbeats 1000000 in
theorem un_bad (k : Nat) (A0 : Option Addr) (c0 : Nat) (l0 : List Int) (a1 a2 s1 s2 : Int) (w : World) (hs : bits_Size.f k a1 a2 = some (s1, s2)) (r2 : Int) (hl : l0.length ≤ 9223372036854775807)
  (h : (s2 ≠ 0 ∧ r2 = s2) ∨ (s2 = 0 ∧ (l0.length : Int) < s1 ∧ r2 = 6) ∨ (s2 = 0 ∧ ¬ (l0.length : Int) < s1 ∧ s1 < (l0.length : Int) ∧ r2 = 7)) :
  Calls Try.prog 75 #[.slice A0 l0.length c0, .int .i64 a1, .int .i64 a2] w fun e w' => e = .returned (.tuple #[.slice none 0 0, .int .i64 r2]) ∧ Below w.heap.size w w' := by
 have Hs := Aside0.mk hs
 clear hs
 rcases h with ⟨h1, rfl⟩ | ⟨rfl, h2, rfl⟩ | ⟨rfl, h2, h3, rfl⟩
 ·have hb : (r2 != 0) = true := by simpa using h1
  clear h1
  go_enter Try.func75, Try.ntmps75
  go_wp2_with (go_at_call 55; refine (bits_Size.calls k a1 a2 s1 r2 _ Hs.out).mono ?_; rintro e w' ⟨rfl, ⟨nd, rfl⟩⟩)
  obtain ⟨q2, q3, q5⟩ := un_badw w a1 a2 _ nd _ rfl
  refine bodyPost_ret (results_v2 rfl (.slice 61) (.int .i64) (by kernel_rfl) rfl (by kernel_rfl) rfl rfl rfl q2 q3) rfl ?_
  exact ⟨rfl, q5⟩
 ·have h2b := decide_eq_true h2
  go_enter Try.func75, Try.ntmps75
  go_wp2_with (go_at_call 55; refine (bits_Size.calls k a1 a2 s1 0 _ Hs.out).mono ?_; rintro e w' ⟨rfl, ⟨nd, rfl⟩⟩)
  obtain ⟨q2, q3, q5⟩ := un_badw w a1 a2 _ nd _ rfl
  refine bodyPost_ret (results_v2 rfl (.slice 61) (.int .i64) (by kernel_rfl) rfl (by kernel_rfl) rfl rfl rfl q2 q3) rfl ?_
  exact ⟨rfl, q5⟩
 ·have h2b := decide_eq_false h2
  have h3b := decide_eq_true h3
  go_enter Try.func75, Try.ntmps75
  go_wp2_with (go_at_call 55; refine (bits_Size.calls k a1 a2 s1 0 _ Hs.out).mono ?_; rintro e w' ⟨rfl, ⟨nd, rfl⟩⟩)
  obtain ⟨q2, q3, q5⟩ := un_badw w a1 a2 _ nd _ rfl
  refine bodyPost_ret (results_v2 rfl (.slice 61) (.int .i64) (by kernel_rfl) rfl (by kernel_rfl) rfl rfl rfl q2 q3) rfl ?_
  exact ⟨rfl, q5⟩
theorem bits_Unpack.calls (k : Nat) (A0 : Option Addr) (c0 : Nat) (l0 : List Int) (a1 a2 : Int) (r1 : List Int) (r2 : Int) (w : World) (hr0 : Kd.C (Kd.int .u8) w A0 l0.length l0) (hc0 : l0.length ≤ c0) (h : bits_Unpack.f k l0 a1 a2 = some (r1, r2)) :
  Calls Try.prog 75 #[.slice A0 l0.length c0, .int .i64 a1, .int .i64 a2] w fun e w' => ∃ v0_ : Value, e = .returned (.tuple #[v0_, .int .i64 r2]) ∧ Kd.R (Kd.int .u64) 61 w' w.heap.size (fun _ => True) v0_ r1 ∧ Below w.heap.size w w' := by
 unfold bits_Unpack.f at h
 obtain ⟨⟨s1, s2⟩, hs, h⟩ := Option.bind_eq_some_iff.1 h
 have hl : l0.length ≤ 9223372036854775807 := hr0.2.1
 have bad : ∀ r, ((s2 ≠ 0 ∧ r = s2) ∨ (s2 = 0 ∧ (l0.length : Int) < s1 ∧ r = 6) ∨ (s2 = 0 ∧ ¬ (l0.length : Int) < s1 ∧ s1 < (l0.length : Int) ∧ r = 7)) → ([], r) = (r1, r2) →
   Calls Try.prog 75 #[.slice A0 l0.length c0, .int .i64 a1, .int .i64 a2] w fun e w' => ∃ v0_ : Value, e = .returned (.tuple #[v0_, .int .i64 r2]) ∧ Kd.R (Kd.int .u64) 61 w' w.heap.size (fun _ => True) v0_ r1 ∧ Below w.heap.size w w' := by
  intro r hr e
  obtain ⟨rfl, rfl⟩ : [] = r1 ∧ r = r2 := by simpa using e
  exact (un_bad k A0 c0 l0 a1 a2 s1 s2 w hs r hl hr).mono fun e w' ⟨he, hb⟩ => ⟨_, he, Kd.R_nil _ _ _ _ _, hb⟩
 by_cases c : s2 = 0
 ·rw [if_pos c] at h
  by_cases d : (l0.length : Int) < s1
  ·rw [if_pos d] at h
   exact bad 6 (.inr (.inl ⟨c, d, rfl⟩)) (Option.some.inj h)
  ·rw [if_neg d] at h
   by_cases e : s1 < (l0.length : Int)
   ·rw [if_pos e] at h
    exact bad 7 (.inr (.inr ⟨c, d, e, rfl⟩)) (Option.some.inj h)
   ·rw [if_neg e] at h
    by_cases g : 0 ≤ a1 ∧ a1 ≤ 64 ∧ 0 ≤ a2 ∧ a2 ≤ 1048576 ∧ l0.length ≤ 1048576
    ·rw [if_pos g] at h
     subst c
     exact (callsIn_wide (n := 4)).1 (un_main k A0 c0 l0 a1 a2 s1 w hr0 hc0 hs d e g.1 g.2.1 g.2.2.1 g.2.2.2.1 g.2.2.2.2 r1 r2 (Option.some.inj h) 4 (Nat.le_refl _))
    ·rw [if_neg g] at h
     exact absurd h (by simp)
 ·rw [if_neg c] at h
  exact bad s2 (.inl ⟨c, rfl⟩) (Option.some.inj h)
end Go.Proofs.Ytpibhiacmceekaa.X
end

section
namespace Go.Proofs.Ytpibhiacmceekaa.X
open Go.RowKit Go.Proofs.YtpibhiacmceekaaW.PrintWords Go.Proofs.YtpibhiacmceekaaW.PrintLast Go.Proofs.YtpibhiacmceekaaW.PrintMore
attribute [local go_sem] max2_int min2_int max_two min_two max_three min_three max_four min_four
set_option linter.unusedVariables false
set_option linter.unusedSimpArgs false
set_option maxHeartbeats 400000 in
theorem rv_next_no (w : World) (g0 g1 : Nat) (A : Option Addr) (n c : Nat) (a : Int) (hb : w.cell? ⟨g0, 0, none⟩ = some (.slice A n c)) (ha : w.cell? ⟨g1, 0, none⟩ = some (.int .i64 a)) (h : decide (a ≥ (n : Int)) = true) :
  Calls Try.prog 74 #[.pointer (some ⟨g1, 0, none⟩), .pointer (some ⟨g0, 0, none⟩)] w fun e w' => e = .returned (.tuple #[.int .u8 0, .bool false]) ∧ w' = w := by
 go_enter Try.func74, Try.ntmps74
 go_wp2
 go_ret2
 exact ⟨rfl, rfl⟩
set_option maxHeartbeats 400000 in
theorem rv_next_yes (w : World) (g0 g1 : Nat) (A : Option Addr) (n c : Nat) (xs : List Int) (a : Int) (hb : w.cell? ⟨g0, 0, none⟩ = some (.slice A n c)) (ha : w.cell? ⟨g1, 0, none⟩ = some (.int .i64 a)) (hf : w.frozen? ⟨g1, 0, none⟩ = false)
  (h0 : 0 ≤ a) (h1 : a < (n : Int)) (hn : n ≤ 9223372036854775807) (hne : g0 ≠ g1) (hC : Kd.C (Kd.int .u8) (w.setCell ⟨g1, 0, none⟩ (.int .i64 (a + 1))) A n xs) :
  Calls Try.prog 74 #[.pointer (some ⟨g1, 0, none⟩), .pointer (some ⟨g0, 0, none⟩)] w fun e w' => e = .returned (.tuple #[.int .u8 (rd xs a), .bool true]) ∧ w' = w.setCell ⟨g1, 0, none⟩ (.int .i64 (a + 1)) := by
 have hb' : (w.setCell ⟨g1, 0, none⟩ (.int .i64 (a + 1))).cell? ⟨g0, 0, none⟩ = some (.slice A n c) := by
  rw [World.cell?_setCell_other _ _ _ _ (by simp)]; exact hb
 obtain ⟨ad, rfl, hx⟩ := c_at hC a h0 h1
 clear hC
 go_enter Try.func74, Try.ntmps74
 go_wp2
 go_ret2
 exact ⟨rfl, rfl⟩
def rvn (n x s : Int) : Int := bits .or .u64 n (IntKind.u64.wrap (IntKind.u64.wrap (bits .and .u8 x 127) * 2 ^ s.toNat))
def rvl : Nat → List Int → Int → Int → Int → Int → Option (Int × Int × Int)
 | 0, _, _, _, _, _ => none
 | k + 1, b, fr, at_, s, n =>
  if at_ < b.length then
   (if s = 63 ∧ 1 < rd b at_ then some (0, 0, 110)
   else if rd b at_ < 128 then (if rd b at_ = 0 ∧ 1 < at_ + 1 - fr then some (0, 0, 8) else some (rvn n (rd b at_) s, at_ + 1, 0))
   else rvl k b fr (at_ + 1) (s + 7) (rvn n (rd b at_) s))
  else some (0, 0, 6)
set_option maxHeartbeats 1000000 in
theorem rv_walk (k : Nat) (A0 : Option Addr) (c0 : Nat) (l0 : List Int) (a1 : Int) (r1 r2 r3 : Int) (w : World) (hr0 : Kd.C (Kd.int .u8) w A0 l0.length l0) (hc0 : l0.length ≤ c0) (h0 : 0 ≤ a1) (h1 : a1 ≤ l0.length) (h : rvl k l0 a1 a1 0 0 = some (r1, r2, r3)) :
  Calls Try.prog 66 #[.slice A0 l0.length c0, .int .i64 a1] w fun e w' => e = .returned (.tuple #[.int .u64 r1, .int .i64 r2, .int .i64 r3]) ∧ Below w.heap.size w w' := by
 have hl : l0.length ≤ 9223372036854775807 := hr0.2.1
 have H' := Aside0.mk h
 clear h
 go_enter Try.func66, Try.ntmps66
 go_wp2
 go_step3
 go_wp2
 go_step3
 go_wp2
 have HB0 : Below w.heap.size w ((w.alloc (Obj.cells #[Value.slice A0 l0.length c0] 37)).alloc (Obj.cells #[Value.int IntKind.i64 a1] 3)) := below_alloc (below_alloc (Below.refl _ _) _) _
 go_loopg [9, 10, 11] k (fun kq v9 v10 v11 w' => ∃ (p s n last : Int), v9 = .int .u64 n ∧ v10 = .int .u8 last ∧ v11 = .int .i64 s ∧ Aside0 (rvl kq l0 a1 p s n = some (r1, r2, r3)) ∧ Aside0 (kq ≤ k) ∧ 0 ≤ s ∧ s ≤ 63 ∧ Aside0 (s % 7 = 0) ∧ a1 ≤ p ∧ p ≤ l0.length ∧
  w'.heap[w.heap.size]? = some (.cells #[.slice A0 l0.length c0] 37 (0, 0)) ∧ w'.heap[w.heap.size + 1]? = some (.cells #[.int .i64 p] 3 (0, 0)) ∧ Aside0 (Below w.heap.size w w'))
 case atStart => exact ⟨a1, 0, 0, 0, rfl, rfl, rfl, H', ⟨Nat.le_refl _⟩, by omega, by omega, ⟨rfl⟩, Int.le_refl _, h1, blk_alloc (blk_new _ _) _, (by have := blk_new (w.alloc (Obj.cells #[Value.slice A0 l0.length c0] 37)) (Obj.cells #[Value.int IntKind.i64 a1] 3); rwa [World.size_alloc] at this), ⟨HB0⟩⟩
 case round =>
  clear H' HB0
  obtain ⟨p, s, n, last, rfl, rfl, rfl, HA, HK, hs0, hs1, hs7, hp, hpl, HG0, HG1, HB⟩ := hrel
  cases gk with
  | zero => exact absurd HA.out (by simp [rvl])
  | succ k1 =>
   have H := HA.out
   clear HA
   simp only [rvl] at H
   have hb : wr.cell? ⟨w.heap.size, 0, none⟩ = some (.slice A0 l0.length c0) := blk_cell HG0 0
   have ha : wr.cell? ⟨w.heap.size + 1, 0, none⟩ = some (.int .i64 p) := blk_cell HG1 0
   by_cases hlt : p < l0.length
   ·rw [if_pos hlt] at H
    have hf : wr.frozen? ⟨w.heap.size + 1, 0, none⟩ = false := blk_frozen HG1 0
    have HB1 : Below w.heap.size w (wr.setCell ⟨w.heap.size + 1, 0, none⟩ (.int .i64 (p + 1))) := HB.out.setCell (p := ⟨w.heap.size + 1, 0, none⟩) (by simp) _
    have HB1 := Aside0.mk HB1
    have HG0' : (wr.setCell ⟨w.heap.size + 1, 0, none⟩ (.int .i64 (p + 1))).heap[w.heap.size]? = some (.cells #[.slice A0 l0.length c0] 37 (0, 0)) := blk_far HG0 (by simp) _
    have HG1' : (wr.setCell ⟨w.heap.size + 1, 0, none⟩ (.int .i64 (p + 1))).heap[w.heap.size + 1]? = some (.cells #[.int .i64 (p + 1)] 3 (0, 0)) := blk_set HG1 0 _
    have HG0' := Aside0.mk HG0'
    have HG1' := Aside0.mk HG1'
    have HN := rv_next_yes wr w.heap.size (w.heap.size + 1) A0 l0.length c0 l0 p hb ha hf (by omega) hlt hl (by omega) (Kd.C_below hr0 HB1.out)
    clear hb ha hf HG0 HG1 HB
    obtain ⟨x, hx⟩ : ∃ x, x = rd l0 p := ⟨_, rfl⟩
    rw [← hx] at H HN
    have H' := Aside0.mk H
    clear H hx
    go_wp2_with fail
    refine HN.mono ?_
    clear HN
    rintro e W1 ⟨rfl, hW1⟩
    rw [← hW1] at HB1 HG0' HG1'
    clear hW1
    have ha : W1.cell? ⟨w.heap.size + 1, 0, none⟩ = some (.int .i64 (p + 1)) := blk_cell HG1'.out 0
    by_cases h9 : s = 63
    ·have h9b : (s == 63) = true := beq_iff_eq.2 h9
     have h9 := Aside0.mk h9
     by_cases h1x : 1 < x
     ·have h1b := decide_eq_true h1x
      have H := H'.out
      rw [if_pos ⟨h9.out, h1x⟩] at H
      obtain ⟨rfl, rfl, rfl⟩ : 0 = r1 ∧ 0 = r2 ∧ 110 = r3 := by simpa using H
      clear H H'
      go_wp2
      rw [Exit.noGoto_ret]
      go_ret3
      exact ⟨rfl, HB1.out⟩
     ·have h1b := decide_eq_false h1x
      have hv := Aside0.mk (show rvn n x s = bits .or .u64 n (IntKind.u64.wrap (IntKind.u64.wrap (bits .and .u8 x 127) * 9223372036854775808)) by rw [h9.out]; rfl)
      by_cases h128 : x < 128
      ·have h128b := decide_eq_true h128
       by_cases hx0 : x = 0
       ·have hx0b : (x == 0) = true := beq_iff_eq.2 hx0
        by_cases hfr : 1 < p + 1 - a1
        ·have H := H'.out
         rw [if_neg (fun h => h1x h.2), if_pos h128, if_pos ⟨hx0, hfr⟩] at H
         obtain ⟨rfl, rfl, rfl⟩ : 0 = r1 ∧ 0 = r2 ∧ 8 = r3 := by simpa using H
         clear H H' hx0
         go_wp2
         rw [Exit.noGoto_ret]
         go_ret3
         exact ⟨rfl, HB1.out⟩
        ·have H := H'.out
         rw [if_neg (fun h => h1x h.2), if_pos h128, if_neg (fun h => hfr h.2)] at H
         obtain ⟨rfl, rfl, rfl⟩ : rvn n x s = r1 ∧ p + 1 = r2 ∧ 0 = r3 := by simpa using H
         clear H H' hx0
         go_wp2
         go_quiet (fail)
         go_wp2
         rw [Exit.noGoto_ret]
         go_ret3
         exact ⟨by rw [hv.out]; rfl, by repeat (first | exact HB1.out | apply pw_below_drewN | apply below_drew1)⟩
       ·have hx0b : (x == 0) = false := beq_eq_false_iff_ne.2 hx0
        have H := H'.out
        rw [if_neg (fun h => h1x h.2), if_pos h128, if_neg (fun h => hx0 h.1)] at H
        obtain ⟨rfl, rfl, rfl⟩ : rvn n x s = r1 ∧ p + 1 = r2 ∧ 0 = r3 := by simpa using H
        clear H H' hx0
        go_wp2
        go_quiet (fail)
        go_wp2
        rw [Exit.noGoto_ret]
        go_ret3
        exact ⟨by rw [hv.out]; rfl, by repeat (first | exact HB1.out | apply pw_below_drewN | apply below_drew1)⟩
      ·have h128b := decide_eq_false h128
       exact absurd h128 (by omega)
    ·have h9b : (s == 63) = false := beq_eq_false_iff_ne.2 h9
     have h9 := Aside0.mk h9
     by_cases h128 : x < 128
     ·have h128b := decide_eq_true h128
      by_cases hx0 : x = 0
      ·have hx0b : (x == 0) = true := beq_iff_eq.2 hx0
       by_cases hfr : 1 < p + 1 - a1
       ·have H := H'.out
        rw [if_neg (fun h => h9.out h.1), if_pos h128, if_pos ⟨hx0, hfr⟩] at H
        obtain ⟨rfl, rfl, rfl⟩ : 0 = r1 ∧ 0 = r2 ∧ 8 = r3 := by simpa using H
        clear H H' hx0
        go_wp2
        rw [Exit.noGoto_ret]
        go_ret3
        exact ⟨rfl, HB1.out⟩
       ·have H := H'.out
        rw [if_neg (fun h => h9.out h.1), if_pos h128, if_neg (fun h => hfr h.2)] at H
        obtain ⟨rfl, rfl, rfl⟩ : rvn n x s = r1 ∧ p + 1 = r2 ∧ 0 = r3 := by simpa using H
        clear H H' hx0
        go_wp2
        go_quiet (fail)
        go_wp2
        rw [Exit.noGoto_ret]
        go_ret3
        exact ⟨rfl, by repeat (first | exact HB1.out | apply pw_below_drewN | apply below_drew1)⟩
      ·have hx0b : (x == 0) = false := beq_eq_false_iff_ne.2 hx0
       have H := H'.out
       rw [if_neg (fun h => h9.out h.1), if_pos h128, if_neg (fun h => hx0 h.1)] at H
       obtain ⟨rfl, rfl, rfl⟩ : rvn n x s = r1 ∧ p + 1 = r2 ∧ 0 = r3 := by simpa using H
       clear H H' hx0
       go_wp2
       go_quiet (fail)
       go_wp2
       rw [Exit.noGoto_ret]
       go_ret3
       exact ⟨rfl, by repeat (first | exact HB1.out | apply pw_below_drewN | apply below_drew1)⟩
     ·have h128b := decide_eq_false h128
      have H := H'.out
      rw [if_neg (fun h => h9.out h.1), if_neg h128] at H
      clear H'
      have H' := Aside0.mk H
      clear H
      go_wp2
      go_roundg k1
      case measure => have := HK.out; omega
      case rel => exact ⟨p + 1, s + 7, rvn n x s, x, rfl, rfl, rfl, H', ⟨by have := HK.out; omega⟩, by omega, by have := h9.out; have := hs7.out; omega, ⟨by have := hs7.out; omega⟩, by omega, by omega, HG0'.out, HG1'.out, ⟨HB1.out⟩⟩
   ·rw [if_neg hlt] at H
    obtain ⟨rfl, rfl, rfl⟩ : 0 = r1 ∧ 0 = r2 ∧ 6 = r3 := by simpa using H
    clear H
    have HN := rv_next_no wr w.heap.size (w.heap.size + 1) A0 l0.length c0 p hb ha (decide_eq_true (by omega))
    go_wp2_with fail
    refine HN.mono ?_
    clear HN
    rintro e W1 ⟨rfl, rfl⟩
    go_wp2
    rw [Exit.noGoto_ret]
    go_ret3
    exact ⟨rfl, HB.out⟩
def bits_ReadVarint.f (k : Nat) (l0 : List Int) (a1 : Int) : Option (Int × Int × Int) := if a1 < 0 then some (0, 0, 2) else if a1 > (l0.length : Int) then some (0, 0, 2) else rvl k l0 a1 a1 0 0
theorem rvl_mono : ∀ k b fr p s n, LeO (rvl k b fr p s n) (rvl (k + 1) b fr p s n)
 | 0, _, _, _, _, _ => LeO.none _
 | k + 1, b, fr, p, s, n => by
  rw [rvl, rvl]
  exact LeO.ite (LeO.ite (LeO.refl _) (LeO.ite (LeO.refl _) (rvl_mono k _ _ _ _ _))) (LeO.refl _)
theorem bits_ReadVarint.mono : ∀ l0 a1 k, LeO (bits_ReadVarint.f k l0 a1) (bits_ReadVarint.f (k + 1) l0 a1) := by
 intro l0 a1 k
 unfold bits_ReadVarint.f
 exact LeO.ite (LeO.refl _) (LeO.ite (LeO.refl _) (rvl_mono k _ _ _ _ _))
set_option maxHeartbeats 400000 in
theorem rv_bad (A0 : Option Addr) (c0 : Nat) (l0 : List Int) (a1 : Int) (w : World) (h : a1 < 0 ∨ a1 > (l0.length : Int)) :
  Calls Try.prog 66 #[.slice A0 l0.length c0, .int .i64 a1] w fun e w' => e = .returned (.tuple #[.int .u64 0, .int .i64 0, .int .i64 2]) ∧ Below w.heap.size w w' := by
 by_cases h0 : a1 < 0
 ·clear h
  have h0b := decide_eq_true h0
  go_enter Try.func66, Try.ntmps66
  go_wp2
  go_step3
  go_wp2
  rw [Exit.noGoto_ret]
  go_ret3
  exact ⟨rfl, below_alloc (below_alloc (Below.refl _ _) _) _⟩
 ·have h1 : (l0.length : Int) < a1 := by omega
  clear h
  have h0b := decide_eq_false h0
  have h1b := decide_eq_true h1
  go_enter Try.func66, Try.ntmps66
  go_wp2
  go_step3
  go_wp2
  rw [Exit.noGoto_ret]
  go_ret3
  exact ⟨rfl, below_alloc (below_alloc (Below.refl _ _) _) _⟩
theorem bits_ReadVarint.calls (k : Nat) (A0 : Option Addr) (c0 : Nat) (l0 : List Int) (a1 : Int) (r1 : Int) (r2 : Int) (r3 : Int) (w : World) (hr0 : Kd.C (Kd.int .u8) w A0 l0.length l0) (hc0 : l0.length ≤ c0) (h : bits_ReadVarint.f k l0 a1 = some (r1, r2, r3)) :
  Calls Try.prog 66 #[.slice A0 l0.length c0, .int .i64 a1] w fun e w' => e = .returned (.tuple #[.int .u64 r1, .int .i64 r2, .int .i64 r3]) ∧ Below w.heap.size w w' := by
 unfold bits_ReadVarint.f at h
 by_cases c : a1 < 0
 ·rw [if_pos c] at h
  obtain ⟨rfl, rfl, rfl⟩ : 0 = r1 ∧ 0 = r2 ∧ 2 = r3 := by simpa using h
  exact rv_bad A0 c0 l0 a1 w (.inl c)
 ·rw [if_neg c] at h
  by_cases d : a1 > (l0.length : Int)
  ·rw [if_pos d] at h
   obtain ⟨rfl, rfl, rfl⟩ : 0 = r1 ∧ 0 = r2 ∧ 2 = r3 := by simpa using h
   exact rv_bad A0 c0 l0 a1 w (.inr d)
  ·rw [if_neg d] at h
   exact rv_walk k A0 c0 l0 a1 r1 r2 r3 w hr0 hc0 (by omega) (by omega) h
end Go.Proofs.Ytpibhiacmceekaa.X
end

section
namespace Go.Proofs.Ytpibhiacmceekaa.X
open Go.RowKit Go.Proofs.YtpibhiacmceekaaW.PrintWords Go.Proofs.YtpibhiacmceekaaW.PrintLast Go.Proofs.YtpibhiacmceekaaW.PrintMore
set_option linter.unusedVariables false
set_option linter.unusedSimpArgs false
def stopP (why : Int) : List PanicEntry := [{ v := .iface 114 (.agg #[.int .i64 why]), recovered := false }]
theorem hy_must_ok (why : Int) (w : World) : Calls Try.prog 64 #[.bool true, .int .i64 why] w fun e w' => (∃ v, e = .returned v) ∧ w' = w := by
  go_enter Try.func64, Try.ntmps64
  go_wp2
  go_end0
  exact ⟨⟨_, rfl⟩, rfl⟩
theorem hy_must_no (why : Int) (w : World) : Calls Try.prog 64 #[.bool false, .int .i64 why] w fun e w' => e = .panicked (stopP why) ∧ w' = w := by
  go_enter Try.func64, Try.ntmps64
  go_wp2
  exact ⟨rfl, rfl, rfl⟩
theorem hy_right_ok (w : World) : Calls Try.prog 67 #[.int .i64 0] w fun e w' => (∃ v, e = .returned v) ∧ w' = w := by
  have HM := Aside0.mk (fun why W => hy_must_ok why W)
  go_enter Try.func67, Try.ntmps67
  go_wp2_with fail
  refine (HM.out _ _).mono ?_
  rintro e W ⟨⟨v, rfl⟩, rfl⟩
  go_wp2
  go_end0
  exact ⟨⟨_, rfl⟩, rfl⟩
theorem hy_right_no (why : Int) (h : why ≠ 0) (w : World) : Calls Try.prog 67 #[.int .i64 why] w fun e w' => e = .panicked (stopP why) ∧ w' = w := by
  have HM := Aside0.mk (fun why W => hy_must_no why W)
  have hb : (why == 0) = false := by simp [h]
  clear h
  go_enter Try.func67, Try.ntmps67
  go_wp2_with fail
  refine (HM.out _ _).mono ?_
  rintro e W ⟨rfl, rfl⟩
  exact ⟨rfl, rfl, rfl⟩
def HyB (w0 w : World) : Prop := Below w0.heap.size w0 w ∧ w.heap[w0.heap.size + 1]? = some (.cells #[.slice none 0 0, .slice none 0 0, .int .i64 0] 82 (0, 0)) ∧ w.heap[w0.heap.size + 2]? = some (.cells #[.int .i64 0] 24 (0, 0))
def HyI (w0 : World) (vb : Value) (l : List Int) (at_ : Int) (M : Nat) (w : World) : Prop :=
  ∃ lv rv m rs, HyB w0 w ∧ w.heap[w0.heap.size]? = some (.cells #[vb] 37 (0, 0)) ∧ w.heap[w0.heap.size + 3]? = some (.cells #[lv, rv, .int .i64 at_] 82 (0, 0)) ∧
    w.ownsRow w0.heap.size 3 1 lv l.length (nums .i64 l) ∧ w.ownsRow w0.heap.size 118 2 rv m rs ∧ m ≤ M
theorem HyB.below {w0 w w' : World} (h : HyB w0 w) (hb : Below w.heap.size w w') : HyB w0 w' := ⟨h.1.trans (hb.mono h.1.size), blk_below h.2.1 hb, blk_below h.2.2 hb⟩
theorem own_below' {w w' : World} {base n : Nat} {e : TypeId} {size : Nat} {v : Value} {xs : List Value} (h : w.ownsRow base e size v n xs) (hb : Below w.heap.size w w') : w'.ownsRow base e size v n xs :=
  h.kept (row := none) ⟨hb.os, hb.tape, hb.output, hb.size, fun k hk _ => hb.block k hk⟩ (by cases hv : v.ownBlock <;> simp)
theorem HyI.below {w0 w w' : World} {vb : Value} {l : List Int} {a : Int} {M : Nat} (h : HyI w0 vb l a M w) (hb : Below w.heap.size w w') : HyI w0 vb l a M w' := by
  obtain ⟨lv, rv, m, rs, h1, h2, h3, h4, h5, h6⟩ := h
  exact ⟨lv, rv, m, rs, h1.below hb, blk_below h2 hb, blk_below h3 hb, own_below' h4 hb, own_below' h5 hb, h6⟩
theorem own_apart {w : World} {base n1 n2 s1 s2 : Nat} {e1 e2 : TypeId} {v1 v2 : Value} {xs1 xs2 : List Value} (h1 : w.ownsRow base e1 s1 v1 n1 xs1) (h2 : w.ownsRow base e2 s2 v2 n2 xs2) (hne : e1 ≠ e2) : v2.ownBlock = none ∨ v2.ownBlock ≠ v1.ownBlock := by
  obtain ⟨_, h2 | ⟨g, cap, cur, rfl, hb, hg, _⟩⟩ := h2
  · left; rw [h2.1]; rfl
  · right; exact own_ne h1 hg hne
theorem HyI.setAt {w0 w : World} {vb : Value} {l : List Int} {a : Int} {M : Nat} (h : HyI w0 vb l a M w) (a' : Int) : HyI w0 vb l a' M (w.setCell ⟨w0.heap.size + 3, 2, none⟩ (.int .i64 a')) := by
  obtain ⟨lv, rv, m, rs, ⟨hb, hb1, hb2⟩, h2, h3, h4, h5, h6⟩ := h
  refine ⟨lv, rv, m, rs, ⟨hb.setCell (p := ⟨w0.heap.size + 3, 2, none⟩) (by simp) _, blk_far hb1 (by simp) _, blk_far hb2 (by simp) _⟩, blk_far h2 (by simp) _, blk_set h3 2 _, own_setCell h4 (own_ne h4 h3 (by decide)) _, own_setCell h5 (own_ne h5 h3 (by decide)) _, h6⟩
theorem HyI.putL {w0 w w1 : World} {lv rv v1 : Value} {m : Nat} {rs : List Value} {l ys : List Int} {vb : Value} {a : Int} (hB : HyB w0 w) (h2 : w.heap[w0.heap.size]? = some (.cells #[vb] 37 (0, 0))) (h3 : w.heap[w0.heap.size + 3]? = some (.cells #[lv, rv, .int .i64 a] 82 (0, 0)))
    (h4 : w.ownsRow w0.heap.size 3 1 lv l.length (nums .i64 l)) (h5 : w.ownsRow w0.heap.size 118 2 rv m rs) {M : Nat} (h6 : m ≤ M)
    (ho : w1.ownsRow w0.heap.size 3 1 v1 ys.length (nums .i64 ys)) (hb : Below w0.heap.size w0 w1) (hg : w.grownBy w1 lv.ownBlock) : HyI w0 vb ys a M (w1.setCell ⟨w0.heap.size + 3, 0, none⟩ v1) := by
  have g3 := blk_grown h3 hg (own_ne h4 h3 (by decide))
  refine ⟨v1, rv, m, rs, ⟨hb.setCell (p := ⟨w0.heap.size + 3, 0, none⟩) (by simp) _, blk_far (blk_grown hB.2.1 hg (own_ne h4 hB.2.1 (by decide))) (by simp) _, blk_far (blk_grown hB.2.2 hg (own_ne h4 hB.2.2 (by decide))) (by simp) _⟩,
    blk_far (blk_grown h2 hg (own_ne h4 h2 (by decide))) (by simp) _, blk_set g3 0 _, own_setCell ho (own_ne ho g3 (by decide)) _, own_setCell (own_other h5 hg (own_apart h4 h5 (by decide))) ?_ _, h6⟩
  exact own_ne (own_other h5 hg (own_apart h4 h5 (by decide))) g3 (by decide)
theorem HyI.putR {w0 w w1 : World} {lv rv v1 : Value} {m m' : Nat} {rs rs' : List Value} {l : List Int} {vb : Value} {a : Int} (hB : HyB w0 w) (h2 : w.heap[w0.heap.size]? = some (.cells #[vb] 37 (0, 0))) (h3 : w.heap[w0.heap.size + 3]? = some (.cells #[lv, rv, .int .i64 a] 82 (0, 0)))
    (h4 : w.ownsRow w0.heap.size 3 1 lv l.length (nums .i64 l)) (h5 : w.ownsRow w0.heap.size 118 2 rv m rs) {M : Nat} (h6 : m' ≤ M)
    (ho : w1.ownsRow w0.heap.size 118 2 v1 m' rs') (hb : Below w0.heap.size w0 w1) (hg : w.grownBy w1 rv.ownBlock) : HyI w0 vb l a M (w1.setCell ⟨w0.heap.size + 3, 1, none⟩ v1) := by
  have g3 := blk_grown h3 hg (own_ne h5 h3 (by decide))
  refine ⟨lv, v1, m', rs', ⟨hb.setCell (p := ⟨w0.heap.size + 3, 1, none⟩) (by simp) _, blk_far (blk_grown hB.2.1 hg (own_ne h5 hB.2.1 (by decide))) (by simp) _, blk_far (blk_grown hB.2.2 hg (own_ne h5 hB.2.2 (by decide))) (by simp) _⟩,
    blk_far (blk_grown h2 hg (own_ne h5 h2 (by decide))) (by simp) _, blk_set g3 1 _, own_setCell (own_other h4 hg (own_apart h5 h4 (by decide))) ?_ _, own_setCell ho (own_ne ho g3 (by decide)) _, h6⟩
  exact own_ne (own_other h4 hg (own_apart h5 h4 (by decide))) g3 (by decide)
end Go.Proofs.Ytpibhiacmceekaa.X
end

section
namespace Go.Proofs.Ytpibhiacmceekaa.X
open Go.RowKit Go.Proofs.YtpibhiacmceekaaW.PrintWords Go.Proofs.YtpibhiacmceekaaW.PrintLast Go.Proofs.YtpibhiacmceekaaW.PrintMore
set_option linter.unusedVariables false
set_option linter.unusedSimpArgs false
def hyRep (k : Nat) (b : List Int) (W n left : Int) (l : List Int) (a : Int) : Option (Int × List Int × Int) :=
  if n ≤ left then (if (W + 7) / 8 ≤ (b.length : Int) - a then (bits_ReadLittle.f k b a ((W + 7) / 8)).bind fun x => (bits_Width.f k x.1).bind fun t => if t ≤ W then (if 0 ≤ x.1 ∧ x.1 ≤ 4294967295 then some (0, l ++ List.replicate n.toNat x.1, a + (W + 7) / 8) else none) else some (8, [], 0) else some (6, [], 0)) else some (8, [], 0)
def HyOut (w0 : World) (vb : Value) (r : Int) (l : List Int) (a : Int) (M : Nat) (e : Ending) (w : World) : Prop :=
  (r = 0 ∧ (∃ v, e = .returned v) ∧ HyI w0 vb l a M w) ∨ (r ≠ 0 ∧ e = .panicked (stopP r) ∧ HyB w0 w)
theorem HyI.b {w0 w : World} {vb : Value} {l : List Int} {a : Int} {M : Nat} (h : HyI w0 vb l a M w) : HyB w0 w := by
  obtain ⟨_, _, _, _, h1, _⟩ := h; exact h1
theorem HyI.at_ {w0 w : World} {vb : Value} {l : List Int} {a : Int} {M : Nat} (h : HyI w0 vb l a M w) : w.cell? ⟨w0.heap.size + 3, 2, none⟩ = some (.int .i64 a) ∧ w.frozen? ⟨w0.heap.size + 3, 2, none⟩ = false := by
  obtain ⟨_, _, _, _, _, _, h3, _⟩ := h; exact ⟨blk_cell h3 2, blk_frozen h3 2⟩
theorem hy_info : (Try.prog.info? 3).map (fun i => (i.zero, i.size, i.bytes)) = some (some (.int .i64 0), 1, 8) := by kernel_rfl
theorem hy_infoR : (Try.prog.info? 118).map (fun i => (i.zero, i.size, i.bytes)) = some (some (.agg #[.bool false, .int .i64 0]), 2, 16) := by kernel_rfl
set_option maxRecDepth 100000 in
set_option maxHeartbeats 4000000 in
theorem hy_repeated (k : Nat) (w0 : World) (A : Option Addr) (c : Nat) (b : List Int) (W n left a : Int) (l : List Int) (r : Int) (l' : List Int) (a' : Int) (w : World) (hC : Kd.C (Kd.int .u8) w0 A b.length b) (hc : b.length ≤ c) (M : Nat) (hI : HyI w0 (.slice A b.length c) l a M w) (hM : M ≤ 200000000)
    (hW0 : 0 ≤ W) (hW1 : W ≤ 32) (hn0 : 1 ≤ n) (hn1 : n ≤ 4194304) (hl0 : 0 ≤ left) (hl1 : left ≤ 65536) (ha0 : 0 ≤ a) (ha1 : a ≤ b.length) (hb1 : b.length ≤ 1048576) (hll : l.length ≤ 65536) (h : hyRep k b W n left l a = some (r, l', a')) :
    Calls Try.prog 68 #[.pointer (some ⟨w0.heap.size + 3, 0, none⟩), .slice A b.length c, .int .i64 W, .int .i64 n, .int .i64 left] w (HyOut w0 (.slice A b.length c) r l' a' (M + 1)) := by
  have HC := Aside0.mk hC
  have HI := Aside0.mk hI
  have MO := Aside0.mk (fun why W => hy_must_ok why W)
  have MN := Aside0.mk (fun why W => hy_must_no why W)
  clear hC hI
  unfold hyRep at h
  by_cases c1 : n ≤ left
  · have d1 := decide_eq_true c1
    rw [if_pos c1] at h
    by_cases c2 : (W + 7) / 8 ≤ (b.length : Int) - a
    · have d2 := decide_eq_true c2
      rw [if_pos c2] at h
      obtain ⟨⟨x, xe⟩, hx, h⟩ := Option.bind_eq_some_iff.1 h
      obtain ⟨t, ht, h⟩ := Option.bind_eq_some_iff.1 h
      have HX := Aside0.mk (fun W' hC' => bits_ReadLittle.calls k A c b a ((W + 7) / 8) x xe W' hC' hc hx)
      have HT := Aside0.mk (fun W' => bits_Width.calls k x t W' ht)
      have H := Aside0.mk h
      obtain ⟨q0, q1⟩ := HI.out.at_
      clear hx ht h c1 q1
      go_enter Try.func68, Try.ntmps68
      go_wp2_with fail
      refine (MO.out _ _).mono ?_
      rintro e W1 ⟨⟨v1, rfl⟩, rfl⟩
      go_wp2_with fail
      refine (MO.out _ _).mono ?_
      rintro e W2 ⟨⟨v2, rfl⟩, rfl⟩
      go_wp2_with fail
      refine (HX.out _ (Kd.C_below HC.out HI.out.b.1)).mono ?_
      rintro e W3 ⟨rfl, hd3⟩
      have HI3 := Aside0.mk (HI.out.below hd3.below)
      clear HI HX hd3 q0 d1 d2
      by_cases c3 : t ≤ W
      · have d3 := decide_eq_true c3
        have H2 := H.out
        rw [if_pos c3] at H2
        by_cases c4 : 0 ≤ x ∧ x ≤ 4294967295
        · rw [if_pos c4] at H2
          have H' := Aside0.mk (show 0 = r ∧ l ++ List.replicate n.toNat x = l' ∧ a + (W + 7) / 8 = a' by simpa using H2)
          obtain ⟨x0, x1⟩ := c4
          clear H H2 c3
          go_wp2_with fail
          refine (HT.out _).mono ?_
          rintro e W4 ⟨rfl, hd4⟩
          have HI4 := Aside0.mk (HI3.out.below hd4.below)
          clear HI3 HT hd4
          go_wp2_with fail
          refine (MO.out _ _).mono ?_
          rintro e W5 ⟨⟨v5, rfl⟩, rfl⟩
          obtain ⟨q0, q1⟩ := HI4.out.at_
          go_wp2
          have HI5 := Aside0.mk (HI4.out.setAt (a + (W + 7) / 8))
          clear HI4 q0 q1 d3
          go_loopw [54] (fun v54 w' => ∃ j : Nat, v54 = .int .i64 j ∧ (j : Int) ≤ n ∧ Aside0 (HyI w0 (.slice A b.length c) (l ++ List.replicate j x) (a + (W + 7) / 8) M w')) (fun v54 _ => n.toNat - (intOf v54).toNat)
          case atStart => exact ⟨0, rfl, by omega, by simpa using HI5⟩
          case round =>
            clear HI5
            obtain ⟨j, rfl, hj, HJ⟩ := hrel
            obtain ⟨lv, rv, m, rs, hB, h2, h3, h4, h5, h6⟩ := HJ.out
            have HB := Aside0.mk hB
            have H2' := Aside0.mk h2
            have H3 := Aside0.mk h3
            have H4 := Aside0.mk h4
            have H5 := Aside0.mk h5
            have H6 := Aside0.mk h6
            clear HJ hB h2 h3 h4 h5 h6
            by_cases hlt : (j : Int) < n
            · have hltb := decide_eq_true hlt
              have q0 : wr.cell? ⟨w0.heap.size + 3, 0, none⟩ = some lv := blk_cell H3.out 0
              obtain ⟨ys, hys⟩ : ∃ ys, ys = l ++ List.replicate j x := ⟨_, rfl⟩
              rw [← hys] at H4
              have hyl : ys.length ≤ 200000000 := by rw [hys, List.length_append, List.length_replicate]; omega
              have Hys := Aside0.mk (show ys ++ [x] = l ++ List.replicate (j + 1) x by rw [hys, List.append_assoc, ← List.replicate_succ'])
              have HS := Aside0.mk (show w0.heap.size ≤ wr.heap.size from HB.out.1.size)
              clear hys
              go_wp2_with (first | ((with_reducible refine gate_builtin (b := .append) (xs := #[.tmp 60, .tmp 63]) rfl ?_); at_builtin; refine print_append_num (w0 := w0) w0.heap.size rfl (.tmp 60) (.tmp 63) 23 3 .i64 8 rfl Try.underlying23 hy_info (by decide) lv ys x rfl rfl H4.out HB.out.1 HS.out (by omega) ?_; intro v2 w2 ho2 hb2 hg2 hat2; obtain ⟨bk, cap, rfl, hbk, _⟩ := ho2.form (by simp); have q02 : w2.cell? ⟨w0.heap.size + 3, 0, none⟩ = some lv := blk_cell (blk_grown H3.out hg2 (own_ne H4.out H3.out (by decide))) 0; have q12 : w2.frozen? ⟨w0.heap.size + 3, 0, none⟩ = false := blk_frozen (blk_grown H3.out hg2 (own_ne H4.out H3.out (by decide))) 0; have ho2 := Aside0.mk ho2; have hb2 := Aside0.mk hb2; have hg2 := Aside0.mk hg2; clear hat2 q0))
              go_roundw
              case measure => simp [intOf]; omega
              case rel => exact ⟨j + 1, by go_num, by omega, ⟨by have := HyI.putL (a := a + (W + 7) / 8) HB.out H2'.out H3.out H4.out H5.out H6.out ho2.out hb2.out hg2.out; rwa [show (ys ++ [x]).length = ys.length + 1 from by simp, Hys.out] at this⟩⟩
            · have hltb := decide_eq_false hlt
              have q0 : wr.cell? ⟨w0.heap.size + 3, 1, none⟩ = some rv := blk_cell H3.out 1
              have HS := Aside0.mk (show w0.heap.size ≤ wr.heap.size from HB.out.1.size)
              have hjn : (j : Int) = n := by omega
              have hlen : (l ++ List.replicate j x).length ≤ 200000000 := by rw [List.length_append, List.length_replicate]; omega
              have hj1 : 1 ≤ j := by omega
              have HM := Aside0.mk (show m ≤ 200000000 from Nat.le_trans H6.out hM)
              go_wp2_with (first | ((with_reducible refine gate_builtin (b := .append) (xs := #[.tmp 72, .tmp 75]) rfl ?_); at_builtin; refine print_append_cells (w0 := w0) w0.heap.size rfl (.tmp 72) (.tmp 75) 80 118 (.agg #[.bool false, .int .i64 0]) 2 16 rfl Try.underlying80 hy_infoR rfl (by decide) (by decide) rv m rs [.bool false, .int .i64 n] rfl rfl rfl (by simp [Value.oneCell']) H5.out HB.out.1 HS.out (by have := HM.out; omega) ?_; intro v2 w2 ho2 hb2 hg2 hat2; obtain ⟨bk, cap, rfl, hbk, _⟩ := ho2.form (by simp); have q02 : w2.cell? ⟨w0.heap.size + 3, 1, none⟩ = some rv := blk_cell (blk_grown H3.out hg2 (own_ne H5.out H3.out (by decide))) 1; have q12 : w2.frozen? ⟨w0.heap.size + 3, 1, none⟩ = false := blk_frozen (blk_grown H3.out hg2 (own_ne H5.out H3.out (by decide))) 1; have ho2 := Aside0.mk ho2; have hb2 := Aside0.mk hb2; have hg2 := Aside0.mk hg2; clear hat2 q0))
              go_end0
              obtain ⟨rfl, rfl, rfl⟩ := H'.out
              refine .inl ⟨rfl, ⟨_, rfl⟩, ?_⟩
              have := HyI.putR (M := M + 1) (a := a + (W + 7) / 8) HB.out H2'.out H3.out H4.out H5.out (by have := H6.out; omega) ho2.out hb2.out hg2.out
              rwa [show n.toNat = j by omega]
        · rw [if_neg c4] at H2
          exact absurd H2 (by simp)
      · have d3 := decide_eq_false c3
        have H2 := H.out
        rw [if_neg c3] at H2
        have H' := Aside0.mk (show 8 = r ∧ [] = l' ∧ 0 = a' by simpa using H2)
        clear H H2 c3
        go_wp2_with fail
        refine (HT.out _).mono ?_
        rintro e W4 ⟨rfl, hd4⟩
        have HI4 := Aside0.mk (HI3.out.below hd4.below)
        clear HI3 HT hd4
        go_wp2_with fail
        refine (MN.out _ _).mono ?_
        rintro e W5 ⟨rfl, rfl⟩
        obtain ⟨rfl, rfl, rfl⟩ := H'.out
        exact ⟨rfl, .inr ⟨by decide, rfl, HI4.out.b⟩⟩
    · have d2 := decide_eq_false c2
      rw [if_neg c2] at h
      have H' := Aside0.mk (show 6 = r ∧ [] = l' ∧ 0 = a' by simpa using h)
      obtain ⟨q0, q1⟩ := HI.out.at_
      clear h c1 q1 c2
      go_enter Try.func68, Try.ntmps68
      go_wp2_with fail
      refine (MO.out _ _).mono ?_
      rintro e W1 ⟨⟨v1, rfl⟩, rfl⟩
      go_wp2_with fail
      refine (MN.out _ _).mono ?_
      rintro e W5 ⟨rfl, rfl⟩
      obtain ⟨rfl, rfl, rfl⟩ := H'.out
      exact ⟨rfl, .inr ⟨by decide, rfl, HI.out.b⟩⟩
  · have d1 := decide_eq_false c1
    rw [if_neg c1] at h
    have H' := Aside0.mk (show 8 = r ∧ [] = l' ∧ 0 = a' by simpa using h)
    clear h c1
    go_enter Try.func68, Try.ntmps68
    go_wp2_with fail
    refine (MN.out _ _).mono ?_
    rintro e W5 ⟨rfl, rfl⟩
    obtain ⟨rfl, rfl, rfl⟩ := H'.out
    exact ⟨rfl, .inr ⟨by decide, rfl, HI.out.b⟩⟩
end Go.Proofs.Ytpibhiacmceekaa.X
end

section
namespace Go.Proofs.Ytpibhiacmceekaa.X
open Go.RowKit Go.Proofs.YtpibhiacmceekaaW.PrintWords Go.Proofs.YtpibhiacmceekaaW.PrintLast Go.Proofs.YtpibhiacmceekaaW.PrintMore
set_option linter.unusedVariables false
set_option linter.unusedSimpArgs false
def hyPut (left : Int) : List Int → Int → List Int → Option (Int × List Int)
  | [], _, l => some (0, l)
  | x :: xs, i, l => if i < left then (if 0 ≤ x ∧ x ≤ 9223372036854775807 then hyPut left xs (i + 1) (l ++ [x]) else none) else if x = 0 then hyPut left xs (i + 1) l else some (8, [])
def hyPack (k : Nat) (b : List Int) (W n left : Int) (l : List Int) (a : Int) : Option (Int × List Int × Int) :=
  if n ≤ (left + 7) / 8 then (if n * W ≤ (b.length : Int) - a then (bits_Unpack.f k ((b.take (a + n * W).toNat).drop a.toNat) W (8 * n)).bind fun u => if u.2 = 0 then (hyPut left u.1 0 l).bind fun p => if p.1 = 0 then some (0, p.2, a + n * W) else some (p.1, [], 0) else some (u.2, [], 0) else some (6, [], 0)) else some (8, [], 0)
theorem hy_slice (A : Option Addr) (c len : Nat) (lo hi : Int) (h0 : 0 ≤ lo) (h1 : lo ≤ hi) (h2 : hi ≤ (c : Int)) (W : World) :
    (Instr.slice 37 (.slice A len c) (some (.int .i64 lo)) (some (.int .i64 hi)) none).run Try.prog W = .ok (.slice (if c = lo.toNat then A else A.map (·.add (lo.toNat * 1))) (hi.toNat - lo.toNat) (c - lo.toNat)) W := by
  have e1 : lo.toNat ≤ hi.toNat := by omega
  have hs : (Try.prog.info? 5).map (·.size) = some 1 := by kernel_rfl
  cases hq : Try.prog.info? 5 with
  | none => simp [hq] at hs
  | some i =>
    have hs1 : i.size = 1 := by simpa [hq] using hs
    obtain ⟨l, rfl⟩ := Int.eq_ofNat_of_zero_le h0
    obtain ⟨h, rfl⟩ := Int.eq_ofNat_of_zero_le (show 0 ≤ hi by omega)
    unfold Instr.slice
    simp only [Sem.run_bind, run_underlying Try.underlying37, Result.andThen_ok]
    simp only [Instr.sliceBounds, Sem.run_bind, Sem.run_pure, Result.andThen_ok]
    have r1 := run_sliceBound (P := Try.prog) W .i64 (h : Int) c .sliceAcap (by omega) h2
    have r2 := run_sliceBound (P := Try.prog) W .i64 (l : Int) h .sliceB (by omega) h1
    simp [r1, r2, sizeOf, typeInfo, hq, hs1, Sem.run_bind]
theorem hy_drop {l : List Int} {i : Nat} (h : i < l.length) : l.drop i = l.getD i 0 :: l.drop (i + 1) := by
  rw [List.drop_eq_getElem_cons h, List.getD_eq_getElem?_getD, List.getElem?_eq_getElem h]; rfl
set_option maxRecDepth 100000 in
set_option maxHeartbeats 8000000 in
theorem hy_packed (k : Nat) (w0 : World) (A : Option Addr) (c : Nat) (b : List Int) (W n left a : Int) (l : List Int) (r : Int) (l' : List Int) (a' : Int) (w : World) (hC : Kd.C (Kd.int .u8) w0 A b.length b) (hc : b.length ≤ c) (M : Nat) (hI : HyI w0 (.slice A b.length c) l a M w) (hM : M ≤ 200000000)
    (hW0 : 0 ≤ W) (hW1 : W ≤ 32) (hn0 : 1 ≤ n) (hn1 : n ≤ 4194304) (hl0 : 0 ≤ left) (hl1 : left ≤ 65536) (ha0 : 0 ≤ a) (ha1 : a ≤ b.length) (hb1 : b.length ≤ 1048576) (hll : l.length ≤ 65536) (h : hyPack k b W n left l a = some (r, l', a')) :
    Calls Try.prog 69 #[.pointer (some ⟨w0.heap.size + 3, 0, none⟩), .slice A b.length c, .int .i64 W, .int .i64 n, .int .i64 left] w (HyOut w0 (.slice A b.length c) r l' a' (M + 1)) := by
  have HC := Aside0.mk hC
  have HI := Aside0.mk hI
  have MO := Aside0.mk (fun why W => hy_must_ok why W)
  have MN := Aside0.mk (fun why W => hy_must_no why W)
  have RO := Aside0.mk (fun W => hy_right_ok W)
  have RN := Aside0.mk (fun why h W => hy_right_no why h W)
  clear hC hI
  unfold hyPack at h
  have hp0 : 0 ≤ n * W := Int.mul_nonneg (by omega) hW0
  have hp1 : n * W ≤ 134217728 := by have := Int.mul_le_mul hn1 hW1 hW0 (by omega); omega
  by_cases c1 : n ≤ (left + 7) / 8
  · have d1 := decide_eq_true c1
    rw [if_pos c1] at h
    by_cases c2 : n * W ≤ (b.length : Int) - a
    · have d2 := decide_eq_true c2
      rw [if_pos c2] at h
      obtain ⟨⟨u, ue⟩, hu, h⟩ := Option.bind_eq_some_iff.1 h
      have H := Aside0.mk h
      obtain ⟨q0, q1⟩ := HI.out.at_
      have e1 : (a + n * W).toNat = a.toNat + (n * W).toNat := by omega
      obtain ⟨V, hV⟩ : ∃ V, V = Value.slice (if c = a.toNat then A else A.map (·.add (a.toNat * 1))) ((a + n * W).toNat - a.toNat) (c - a.toNat) := ⟨_, rfl⟩
      have hsl := fun W' => hy_slice A c b.length a (a + n * W) ha0 (by omega) (by omega) W'
      have HU : ∀ W', Below w0.heap.size w0 W' → Calls Try.prog 75 #[V, .int .i64 W, .int .i64 (8 * n)] W' fun e w' => ∃ v0_ : Value, e = .returned (.tuple #[v0_, .int .i64 ue]) ∧ Kd.R (Kd.int .u64) 61 w' W'.heap.size (fun _ => True) v0_ u ∧ Below W'.heap.size W' w' := by
        intro W' hB'
        have hm := Kd.C_mid (lo := a.toNat) (hi := (a + n * W).toNat) (c := c) (Kd.C_below HC.out hB') (by omega) (by omega) hc
        have hlen : ((b.take (a + n * W).toNat).drop a.toNat).length = (a + n * W).toNat - a.toNat := by rw [List.length_drop, List.length_take]; omega
        have := bits_Unpack.calls k _ (c - a.toNat) ((b.take (a + n * W).toNat).drop a.toNat) W (8 * n) u ue W' hm (by rw [hlen]; omega) hu
        rw [hlen] at this
        rw [hV]; exact this
      rw [← hV] at hsl
      have HU := Aside0.mk HU
      clear h c1 q1 hV hu e1
      go_enter Try.func69, Try.ntmps69
      go_wp2_with fail
      refine (MO.out _ _).mono ?_
      rintro e W1 ⟨⟨v1, rfl⟩, rfl⟩
      go_wp2_with fail
      refine (MO.out _ _).mono ?_
      rintro e W2 ⟨⟨v2, rfl⟩, rfl⟩
      go_wp2_with fail
      have g1 : IntKind.i64.wrap (n * W) = n * W := IntWalk.i64_in _ (by omega)
      have g2 : IntKind.i64.wrap (a + n * W) = a + n * W := IntWalk.i64_in _ (by omega)
      have g3 : IntKind.i64.wrap (8 * n) = 8 * n := IntWalk.i64_in _ (by omega)
      go_region_with (go_at_call 75; refine (HU.out _ (by repeat (first | exact HI.out.b.1 | apply pw_below_drewN | apply below_drew1))).mono ?_; rintro e W3 ⟨v0, rfl, hR, hB⟩)
      all_goals
        clear g1 g2 g3 hsl HU
        have hB' : Below W2.heap.size W2 W3 := (below_drew (Below.refl W2.heap.size W2)).trans hB
        have HI3 := Aside0.mk (show HyI w0 (.slice A b.length c) l a M W3 from HI.out.below hB')
        have HU3 := Aside0.mk (Kd.own_of_R (Kd.R_lower hR (show w0.heap.size ≤ W2.heap.size from HI.out.b.1.size)))
        obtain ⟨Ao, co, rfl⟩ := Kd.R_slice hR
        have hul : u.length ≤ 9223372036854775807 := (Kd.R_reads' hR).2.2.2.1
        clear hR hB hB' HI q0
        by_cases c3 : ue = 0
        · subst c3
          have H2 := H.out
          rw [if_pos rfl] at H2
          obtain ⟨⟨pe, pl⟩, hp, H2⟩ := Option.bind_eq_some_iff.1 H2
          have HP := Aside0.mk hp
          have H' := Aside0.mk H2
          clear H hp H2
          go_wp2_with fail
          refine (RO.out _).mono ?_
          rintro e W5 ⟨⟨v5, rfl⟩, rfl⟩
          obtain ⟨q0, q1⟩ := HI3.out.at_
          go_wp2
          have HI5 := Aside0.mk (HI3.out.setAt (a + n * W))
          have HU5 := Aside0.mk (own_setCell HU3.out (p := ⟨w0.heap.size + 3, 2, none⟩) (by obtain ⟨_, _, _, _, _, _, h3, _⟩ := HI3.out; exact own_ne HU3.out h3 (by decide)) (.int .i64 (a + n * W)))
          clear HI3 HU3 q0 q1
          go_loopw [67] (fun v67 w' => ∃ (j : Nat) (l1 : List Int), v67 = .int .i64 j ∧ j ≤ u.length ∧ Aside0 (hyPut left (u.drop j) (j : Int) l1 = some (pe, pl)) ∧ Aside0 (l1.length ≤ l.length + j ∧ l1.length ≤ l.length + 65536) ∧ Aside0 (HyI w0 (.slice A b.length c) l1 (a + n * W) M w') ∧ Aside0 (w'.ownsRow w0.heap.size 61 1 (.slice Ao u.length co) u.length (nums .u64 u))) (fun v67 _ => u.length - (intOf v67).toNat)
          case atStart => exact ⟨0, l, rfl, Nat.zero_le _, HP, ⟨by omega, by omega⟩, HI5, HU5⟩
          case round =>
            clear HI5 HU5 HP
            obtain ⟨j, l1, rfl, hj, HP, HL, HJ, HU⟩ := hrel
            obtain ⟨lv, rv, m, rs, hB, h2, h3, h4, h5, h6⟩ := HJ.out
            have HB := Aside0.mk hB
            have H2' := Aside0.mk h2
            have H3 := Aside0.mk h3
            have H4 := Aside0.mk h4
            have H5 := Aside0.mk h5
            have H6 := Aside0.mk h6
            clear hB h2 h3 h4 h5 h6
            by_cases hlt : j < u.length
            · have hP := HP.out
              rw [hy_drop hlt, hyPut] at hP
              obtain ⟨g, cap, hform, _⟩ := HU.out.form (by omega)
              simp only [Value.slice.injEq] at hform
              obtain ⟨rfl, _, rfl⟩ := hform
              obtain ⟨qx, _⟩ := own_at HU.out (j : Int) (by omega) (by omega)
              have e : rd u (j : Int) = u.getD j 0 := rfl
              rw [e, show ((j : Int)).toNat = j from rfl] at qx
              obtain ⟨x, hx⟩ : ∃ x, x = u.getD j 0 := ⟨_, rfl⟩
              rw [← hx] at qx hP
              clear e hx HP
              by_cases c4 : (j : Int) < left
              · have d4 := decide_eq_true c4
                rw [if_pos c4] at hP
                by_cases c5 : 0 ≤ x ∧ x ≤ 9223372036854775807
                · rw [if_pos c5] at hP
                  obtain ⟨x0, x1⟩ := c5
                  have HP' := Aside0.mk hP
                  clear hP HJ
                  have q0 : wr.cell? ⟨w0.heap.size + 3, 0, none⟩ = some lv := blk_cell H3.out 0
                  have hyl : l1.length ≤ 200000000 := by have := HL.out; omega
                  have HS := Aside0.mk (show w0.heap.size ≤ wr.heap.size from HB.out.1.size)
                  go_wp2_with fail
                  refine (MO.out _ _).mono ?_
                  rintro e W7 ⟨⟨v7, rfl⟩, rfl⟩
                  go_wp2_with (first | ((with_reducible refine gate_builtin (b := .append) (xs := #[.tmp 87, .tmp 90]) rfl ?_); at_builtin; refine print_append_num (w0 := w0) w0.heap.size rfl (.tmp 87) (.tmp 90) 23 3 .i64 8 rfl Try.underlying23 hy_info (by decide) lv l1 x rfl rfl H4.out HB.out.1 HS.out (by omega) ?_; intro v2 w2 ho2 hb2 hg2 hat2; obtain ⟨bk, cap, rfl, hbk, _⟩ := ho2.form (by simp); have q02 : w2.cell? ⟨w0.heap.size + 3, 0, none⟩ = some lv := blk_cell (blk_grown H3.out hg2 (own_ne H4.out H3.out (by decide))) 0; have q12 : w2.frozen? ⟨w0.heap.size + 3, 0, none⟩ = false := blk_frozen (blk_grown H3.out hg2 (own_ne H4.out H3.out (by decide))) 0; have ho2 := Aside0.mk ho2; have hb2 := Aside0.mk hb2; have hg2 := Aside0.mk hg2; clear hat2 q0))
                  go_roundw
                  case measure => simp [intOf]; omega
                  case rel => exact ⟨j + 1, l1 ++ [x], by go_num, by omega, HP', ⟨by have := HL.out; simp; omega⟩, ⟨by have := HyI.putL (a := a + n * W) HB.out H2'.out H3.out H4.out H5.out H6.out ho2.out hb2.out hg2.out; rwa [show (l1 ++ [x]).length = l1.length + 1 from by simp] at this⟩, ⟨by have g3 := blk_grown H3.out hg2.out (own_ne H4.out H3.out (by decide)); have := own_other HU.out hg2.out (own_apart H4.out HU.out (by decide)); exact own_setCell this (own_ne this g3 (by decide)) _⟩⟩
                · rw [if_neg c5] at hP
                  exact absurd hP (by simp)
              · have d4 := decide_eq_false c4
                rw [if_neg c4] at hP
                by_cases c5 : x = 0
                · have d5 : (x == 0) = true := by simp [c5]
                  rw [if_pos c5] at hP
                  have HP' := Aside0.mk hP
                  clear hP c5
                  go_wp2_with fail
                  refine (MO.out _ _).mono ?_
                  rintro e W7 ⟨⟨v7, rfl⟩, rfl⟩
                  go_wp2
                  go_roundw
                  case measure => simp [intOf]; omega
                  case rel => exact ⟨j + 1, l1, by go_num, by omega, HP', ⟨by have := HL.out; omega⟩, HJ, HU⟩
                · have d5 : (x == 0) = false := by simp [c5]
                  rw [if_neg c5] at hP
                  obtain ⟨rfl, rfl⟩ : 8 = pe ∧ [] = pl := by simpa using hP
                  have HQ := Aside0.mk (show 8 = r ∧ [] = l' ∧ 0 = a' by simpa using H'.out)
                  clear hP c5 H'
                  go_wp2_with fail
                  refine (MN.out _ _).mono ?_
                  rintro e W7 ⟨rfl, rfl⟩
                  obtain ⟨rfl, rfl, rfl⟩ := HQ.out
                  exact ⟨rfl, .inr ⟨by decide, rfl, HB.out⟩⟩
            · have hP := HP.out
              rw [List.drop_eq_nil_of_le (by omega), hyPut] at hP
              obtain ⟨rfl, rfl⟩ : 0 = pe ∧ l1 = pl := by simpa using hP
              have HQ := Aside0.mk (show 0 = r ∧ l1 = l' ∧ a + n * W = a' by simpa using H'.out)
              clear hP HP H' HJ HU
              have q0 : wr.cell? ⟨w0.heap.size + 3, 1, none⟩ = some rv := blk_cell H3.out 1
              have HS := Aside0.mk (show w0.heap.size ≤ wr.heap.size from HB.out.1.size)
              have HM := Aside0.mk (show m ≤ 200000000 from Nat.le_trans H6.out hM)
              go_wp2_with (first | ((with_reducible refine gate_builtin (b := .append) (xs := #[.tmp 99, .tmp 105]) rfl ?_); at_builtin; refine print_append_cells (w0 := w0) w0.heap.size rfl (.tmp 99) (.tmp 105) 80 118 (.agg #[.bool false, .int .i64 0]) 2 16 rfl Try.underlying80 hy_infoR rfl (by decide) (by decide) rv m rs [_, _] rfl rfl rfl (by simp [Value.oneCell']) H5.out HB.out.1 HS.out (by have := HM.out; omega) ?_; intro v2 w2 ho2 hb2 hg2 hat2; obtain ⟨bk, cap, rfl, hbk, _⟩ := ho2.form (by simp); have q02 : w2.cell? ⟨w0.heap.size + 3, 1, none⟩ = some rv := blk_cell (blk_grown H3.out hg2 (own_ne H5.out H3.out (by decide))) 1; have q12 : w2.frozen? ⟨w0.heap.size + 3, 1, none⟩ = false := blk_frozen (blk_grown H3.out hg2 (own_ne H5.out H3.out (by decide))) 1; have ho2 := Aside0.mk ho2; have hb2 := Aside0.mk hb2; have hg2 := Aside0.mk hg2; clear hat2 q0))
              all_goals
                go_end0
                obtain ⟨rfl, rfl, rfl⟩ := HQ.out
                exact .inl ⟨rfl, ⟨_, rfl⟩, HyI.putR (M := M + 1) (a := a + n * W) HB.out H2'.out H3.out H4.out H5.out (by have := H6.out; omega) ho2.out hb2.out hg2.out⟩
        · have H2 := H.out
          rw [if_neg c3] at H2
          have H' := Aside0.mk (show ue = r ∧ [] = l' ∧ 0 = a' by simpa using H2)
          clear H H2
          have HN := Aside0.mk (fun W => RN.out ue c3 W)
          have C3 := Aside0.mk c3
          clear c3
          go_wp2_with fail
          refine (HN.out _).mono ?_
          rintro e W5 ⟨rfl, rfl⟩
          obtain ⟨h1, rfl, rfl⟩ := H'.out
          rw [← h1]
          exact ⟨rfl, .inr ⟨C3.out, rfl, HI3.out.b⟩⟩
    · have d2 := decide_eq_false c2
      rw [if_neg c2] at h
      have H' := Aside0.mk (show 6 = r ∧ [] = l' ∧ 0 = a' by simpa using h)
      obtain ⟨q0, q1⟩ := HI.out.at_
      clear h c1 q1 c2
      go_enter Try.func69, Try.ntmps69
      go_wp2_with fail
      refine (MO.out _ _).mono ?_
      rintro e W1 ⟨⟨v1, rfl⟩, rfl⟩
      go_wp2_with fail
      refine (MN.out _ _).mono ?_
      rintro e W5 ⟨rfl, rfl⟩
      obtain ⟨rfl, rfl, rfl⟩ := H'.out
      exact ⟨rfl, .inr ⟨by decide, rfl, HI.out.b⟩⟩
  · have d1 := decide_eq_false c1
    rw [if_neg c1] at h
    have H' := Aside0.mk (show 8 = r ∧ [] = l' ∧ 0 = a' by simpa using h)
    clear h c1
    go_enter Try.func69, Try.ntmps69
    go_wp2_with fail
    refine (MN.out _ _).mono ?_
    rintro e W5 ⟨rfl, rfl⟩
    obtain ⟨rfl, rfl, rfl⟩ := H'.out
    exact ⟨rfl, .inr ⟨by decide, rfl, HI.out.b⟩⟩
end Go.Proofs.Ytpibhiacmceekaa.X
end

section
namespace Go.Proofs.Ytpibhiacmceekaa.X
open Go.RowKit Go.Proofs.YtpibhiacmceekaaW.PrintWords Go.Proofs.YtpibhiacmceekaaW.PrintLast Go.Proofs.YtpibhiacmceekaaW.PrintMore
set_option linter.unusedVariables false
set_option linter.unusedSimpArgs false
theorem caught_no (p : Addr) (w : World) :
    CallsD Try.prog 63 #[.pointer (some p)] .returning w fun e u' w' => (∃ v, e = .returned v) ∧ u' = .returning ∧ w' = w := by
  refine callsD_of_wpS Try.func63 rfl fun c₀ cs hu => ?_
  apply wpS_seq
  apply wpS_region
  simp [wpOpsS, go_sem, recoverD, hu, Try.ntmps63, Exit.thenS]
  refine wpS_of_wp ?_
  go_wp2
  cases c₀
  simp_all [bodyPostS, results, Try.results63]
theorem hy_assert (why : Int) (W : World) : (Instr.typeAssert (.iface 114 (.agg #[.int .i64 why])) 20 114 true).run Try.prog W = .ok (.tuple #[.agg #[.int .i64 why], .bool true]) W := by kernel_rfl
set_option maxRecDepth 100000 in
set_option maxHeartbeats 1000000 in
theorem caught_yes (p : Addr) (x why : Int) (w : World) (hc : w.cell? p = some (.int .i64 x)) (hz : w.frozen? p = false) (hp : p.block < w.heap.size) :
    CallsD Try.prog 63 #[.pointer (some p)] (.panicking (stopP why)) w fun e u' w' =>
      (∃ v, e = .returned v) ∧ u' = .panicking [{ v := .iface 114 (.agg #[.int .i64 why]), recovered := true }] ∧ w' = (w.alloc (.cells #[.int .i64 why] 114)).setCell p (.int .i64 why) := by
  refine callsD_of_wpS Try.func63 rfl fun c₀ cs hu => ?_
  unfold stopP at hu
  apply wpS_seq
  apply wpS_region
  simp [wpOpsS, go_sem, recoverD, hu, Try.ntmps63, Exit.thenS]
  refine wpS_of_wp ?_
  clear hu
  have e : (#[Value.pointer (some p)] ++ (Array.replicate 14 undef).setIfInBounds 4 (.iface 114 (.agg #[.int .i64 why]))) = #[Value.pointer (some p), undef, undef, undef, undef, .iface 114 (.agg #[.int .i64 why]), undef, undef, undef, undef, undef, undef, undef, undef, undef] := rfl
  rw [e]
  clear e
  have ht := hy_assert why
  have hc' : (w.alloc (.cells #[.int .i64 why] 114)).cell? p = some (.int .i64 x) := by rw [World.cell?_alloc_lt _ _ _ hp]; exact hc
  have hz' : (w.alloc (.cells #[.int .i64 why] 114)).frozen? p = false := by
    have := (below_alloc (Below.refl w.heap.size w) (.cells #[.int .i64 why] 114)).frozen (p := p) hp
    rw [this]; exact hz
  clear hc hz hp
  go_wp2_with fail
  cases c₀
  simp_all [bodyPostS, results, Try.results63]
def HyHd (w0 : World) (vb : Value) (l : List Int) (M : Nat) (h nx er : Int) (e : Ending) (w : World) : Prop :=
  (er = 0 ∧ 2 ≤ h ∧ h ≤ 4194304 ∧ e = .returned (.int .i64 h) ∧ HyI w0 vb l nx M w) ∨ (er = 0 ∧ ¬ (2 ≤ h ∧ h ≤ 4194304) ∧ e = .panicked (stopP 8) ∧ HyB w0 w) ∨ (er ≠ 0 ∧ e = .panicked (stopP er) ∧ HyB w0 w)
theorem HyI.bytes {w0 w : World} {vb : Value} {l : List Int} {a : Int} {M : Nat} (h : HyI w0 vb l a M w) : w.cell? ⟨w0.heap.size, 0, none⟩ = some vb := by
  obtain ⟨_, _, _, _, _, h2, _⟩ := h; exact blk_cell h2 0
set_option maxRecDepth 100000 in
set_option maxHeartbeats 2000000 in
theorem hy_head (k : Nat) (w0 : World) (A : Option Addr) (c : Nat) (b : List Int) (a : Int) (l : List Int) (M : Nat) (h nx er : Int) (w : World) (hC : Kd.C (Kd.int .u8) w0 A b.length b) (hc : b.length ≤ c) (hI : HyI w0 (.slice A b.length c) l a M w)
    (hx : bits_ReadVarint.f k b a = some (h, nx, er)) :
    Calls Try.prog 65 #[.pointer (some ⟨w0.heap.size, 0, none⟩), .pointer (some ⟨w0.heap.size + 3, 0, none⟩)] w (HyHd w0 (.slice A b.length c) l M h nx er) := by
  have HI := Aside0.mk hI
  have MO := Aside0.mk (fun why W => hy_must_ok why W)
  have MN := Aside0.mk (fun why W => hy_must_no why W)
  have RO := Aside0.mk (fun W => hy_right_ok W)
  have RN := Aside0.mk (fun why h W => hy_right_no why h W)
  have HV := Aside0.mk (bits_ReadVarint.calls k A c b a h nx er w (Kd.C_below hC hI.b.1) hc hx)
  have q0 := hI.bytes
  obtain ⟨q1, _⟩ := hI.at_
  clear hC hI hx
  go_enter Try.func65, Try.ntmps65
  go_wp2_with fail
  refine HV.out.mono ?_
  rintro e W1 ⟨rfl, hB⟩
  have HI1 := Aside0.mk (HI.out.below hB)
  clear hB HI q0 q1
  by_cases c1 : er = 0
  · subst c1
    go_wp2_with fail
    refine (RO.out _).mono ?_
    rintro e W2 ⟨⟨v2, rfl⟩, rfl⟩
    by_cases c2 : 2 ≤ h
    · have d2 := decide_eq_true c2
      by_cases c3 : h ≤ 4194304
      · have d3 := decide_eq_true c3
        go_wp2_with fail
        refine (MO.out _ _).mono ?_
        rintro e W3 ⟨⟨v3, rfl⟩, rfl⟩
        obtain ⟨q0, q1⟩ := HI1.out.at_
        go_wp2
        go_ret
        exact .inl ⟨rfl, by omega, by omega, rfl, HI1.out.setAt nx⟩
      · have d3 := decide_eq_false c3
        have C3 := Aside0.mk c3
        clear c3
        go_wp2_with fail
        refine (MN.out _ _).mono ?_
        rintro e W3 ⟨rfl, rfl⟩
        exact ⟨rfl, .inr (.inl ⟨rfl, fun h => by have := C3.out; omega, rfl, HI1.out.b⟩)⟩
    · have d2 := decide_eq_false c2
      have C2 := Aside0.mk c2
      clear c2
      go_wp2_with fail
      refine (MN.out _ _).mono ?_
      rintro e W3 ⟨rfl, rfl⟩
      exact ⟨rfl, .inr (.inl ⟨rfl, fun h => by have := C2.out; omega, rfl, HI1.out.b⟩)⟩
  · have C1 := Aside0.mk c1
    have HN := Aside0.mk (fun W => RN.out er c1 W)
    clear c1
    go_wp2_with fail
    refine (HN.out _).mono ?_
    rintro e W2 ⟨rfl, rfl⟩
    exact ⟨rfl, .inr (.inr ⟨C1.out, rfl, HI1.out.b⟩)⟩
end Go.Proofs.Ytpibhiacmceekaa.X
end

section
namespace Go.Proofs.Ytpibhiacmceekaa.X
open Go.RowKit Go.Proofs.YtpibhiacmceekaaW.PrintWords Go.Proofs.YtpibhiacmceekaaW.PrintLast Go.Proofs.YtpibhiacmceekaaW.PrintMore
set_option linter.unusedVariables false
set_option linter.unusedSimpArgs false
def hyAll : Nat → List Int → Int → Int → List Int → Int → Option (Int × List Int × Int)
  | 0, _, _, _, _, _ => none
  | k + 1, b, W, count, l, a =>
    if (l.length : Int) < count then (bits_ReadVarint.f k b a).bind fun v =>
      if v.2.2 = 0 then (if 2 ≤ v.1 ∧ v.1 ≤ 4194304 then (if 0 ≤ v.2.1 ∧ v.2.1 ≤ (b.length : Int) then
        (if v.1 % 2 = 0 then hyRep k b W (v.1 / 2) (count - l.length) l v.2.1 else hyPack k b W (v.1 / 2) (count - l.length) l v.2.1).bind fun p =>
          if p.1 = 0 then (if l.length < p.2.1.length ∧ (p.2.1.length : Int) ≤ count ∧ 0 ≤ p.2.2 ∧ p.2.2 ≤ (b.length : Int) then hyAll k b W count p.2.1 p.2.2 else none) else some (p.1, [], 0) else none) else some (8, [], 0)) else some (v.2.2, [], 0)
    else some (0, l, a)
def hyF (k : Nat) (b : List Int) (W count : Int) : Option (Int × List Int × Int) :=
  if W < 0 then some (2, [], 0) else if 32 < W then some (2, [], 0) else if count < 0 then some (2, [], 0) else if 1048576 < (b.length : Int) then some (3, [], 0) else if 65536 < count then some (3, [], 0) else hyAll k b W count [] 0
def HyEnd (w0 : World) (r : Int) (l : List Int) (a : Int) (e : Ending) (w : World) : Prop :=
  ∃ lv Ar m cr, e = .returned (.tuple #[.agg #[lv, .slice Ar m cr, .int .i64 a], .int .i64 r]) ∧ w.ownsRow w0.heap.size 3 1 lv l.length (nums .i64 l) ∧ Below w0.heap.size w0 w
theorem hy_results (tmps : Array Value) (w : World) (g6 g7 : Nat) (x y z : Value) (n : Int) (h6 : tmps.getD 6 undef = .pointer (some ⟨g6, 0, none⟩)) (h7 : tmps.getD 7 undef = .pointer (some ⟨g7, 0, none⟩))
    (hg6 : w.heap[g6]? = some (.cells #[x, y, z] 82 (0, 0))) (hg7 : w.heap[g7]? = some (.cells #[.int .i64 n] 24 (0, 0))) :
    (results Try.f53 tmps).run Try.prog w = .ok (.tuple #[.agg #[x, y, z], .int .i64 n]) w := by
  have h6' : tmps[6]?.getD undef = .pointer (some ⟨g6, 0, none⟩) := by simpa using h6
  have h7' : tmps[7]?.getD undef = .pointer (some ⟨g7, 0, none⟩) := by simpa using h7
  have r6 := run_loadVar_row (P := Try.prog) w g6 82 82 #[x, y, z] (0, 0) _ hg6 Try.underlying82 rfl (by kernel_rfl)
  have hc : w.cell? ⟨g7, 0, none⟩ = some (.int .i64 n) := blk_cell hg7 0
  have r7 : (loadVar 24 ⟨g7, 0, none⟩).run Try.prog w = .ok (.int .i64 n) w := by
    simp [loadVar, isAgg, Sem.run_bind, run_underlying Try.underlying24, hc, go_sem]
  simp [results, Try.results53, h6', h7', asAddr, r6, r7]
theorem hy_start (w : World) (vb : Value) : HyB w (((w.alloc (.cells #[vb] 37)).alloc (.cells #[.slice none 0 0, .slice none 0 0, .int .i64 0] 82)).alloc (.cells #[.int .i64 0] 24)) := by
  refine ⟨below_alloc (below_alloc (below_alloc (Below.refl _ _) _) _) _, ?_, ?_⟩
  · have := blk_new (w.alloc (.cells #[vb] 37)) (.cells #[.slice none 0 0, .slice none 0 0, .int .i64 0] 82)
    rw [World.size_alloc] at this
    exact blk_alloc this _
  · have := blk_new ((w.alloc (.cells #[vb] 37)).alloc (.cells #[.slice none 0 0, .slice none 0 0, .int .i64 0] 82)) (.cells #[.int .i64 0] 24)
    rwa [World.size_alloc, World.size_alloc] at this
def hyDef (w0 : World) : List Deferred := [{ target := .fn (.func 63) #[], args := #[.pointer (some ⟨w0.heap.size + 1 + 1, 0, none⟩)] }]
theorem hy_giveup {w0 w1 : World} {why : Int} (tmps : Array Value) (h6 : tmps.getD 6 undef = .pointer (some ⟨w0.heap.size + 1, 0, none⟩)) (h7 : tmps.getD 7 undef = .pointer (some ⟨w0.heap.size + 1 + 1, 0, none⟩)) (hB : HyB w0 w1) :
    bodyPostD Try.prog Try.f53 (HyEnd w0 why [] 0) (Exit.panic (stopP why)) { tmps := tmps, defers := hyDef w0 } w1 := by
  unfold bodyPostD hyDef
  refine leaves_cons (f := 63) (args := #[.pointer (some ⟨w0.heap.size + 1 + 1, 0, none⟩)]) (by simp) (by simp [go_sem]) ?_
  refine (caught_yes ⟨w0.heap.size + 1 + 1, 0, none⟩ 0 why w1 (blk_cell hB.2.2 0) (blk_frozen hB.2.2 0) (blk_lt hB.2.2)).mono ?_
  rintro e u' w'' ⟨⟨v, rfl⟩, rfl, rfl⟩
  have g6 : ((w1.alloc (.cells #[.int .i64 why] 114)).setCell ⟨w0.heap.size + 1 + 1, 0, none⟩ (.int .i64 why)).heap[w0.heap.size + 1]? = some (.cells #[.slice none 0 0, .slice none 0 0, .int .i64 0] 82 (0, 0)) := blk_far (blk_alloc hB.2.1 _) (by simp) _
  have g7 : ((w1.alloc (.cells #[.int .i64 why] 114)).setCell ⟨w0.heap.size + 1 + 1, 0, none⟩ (.int .i64 why)).heap[w0.heap.size + 1 + 1]? = some (.cells #[.int .i64 why] 24 (0, 0)) := blk_set (blk_alloc hB.2.2 _) 0 _
  refine ⟨_, hy_results tmps _ _ _ _ _ _ _ h6 h7 g6 g7, _, _, _, _, rfl, World.ownsRow_nil _ _ _ _, ?_⟩
  exact (below_alloc hB.1 _).setCell (p := ⟨w0.heap.size + 1 + 1, 0, none⟩) (by simp; omega) _
theorem hy_done {w0 w1 : World} {lv : Value} {Ar : Option Addr} {m cr : Nat} {l : List Int} {a : Int} (tmps : Array Value) (h6 : tmps.getD 6 undef = .pointer (some ⟨w0.heap.size + 1, 0, none⟩)) (h7 : tmps.getD 7 undef = .pointer (some ⟨w0.heap.size + 1 + 1, 0, none⟩))
    (hb : Below w0.heap.size w0 w1) (g6 : w1.heap[w0.heap.size + 1]? = some (.cells #[lv, .slice Ar m cr, .int .i64 a] 82 (0, 0))) (g7 : w1.heap[w0.heap.size + 1 + 1]? = some (.cells #[.int .i64 0] 24 (0, 0)))
    (ho : w1.ownsRow w0.heap.size 3 1 lv l.length (nums .i64 l)) :
    bodyPostD Try.prog Try.f53 (HyEnd w0 0 l a) Exit.ret { tmps := tmps, defers := hyDef w0 } w1 := by
  unfold bodyPostD hyDef
  refine leaves_cons (f := 63) (args := #[.pointer (some ⟨w0.heap.size + 1 + 1, 0, none⟩)]) (by simp) (by simp [go_sem]) ?_
  refine (caught_no ⟨w0.heap.size + 1 + 1, 0, none⟩ w1).mono ?_
  rintro e u' w'' ⟨⟨v, rfl⟩, rfl, rfl⟩
  exact ⟨_, hy_results tmps _ _ _ _ _ _ _ h6 h7 g6 g7, _, _, _, _, rfl, ho, hb⟩
theorem own_form {w : World} {base n : Nat} {e : TypeId} {size : Nat} {v : Value} {xs : List Value} (h : w.ownsRow base e size v n xs) : ∃ A c, v = .slice A n c := by
  obtain ⟨_, ⟨rfl, rfl⟩ | ⟨g, cap, cur, rfl, _⟩⟩ := h
  · exact ⟨_, _, rfl⟩
  · exact ⟨_, _, rfl⟩
theorem hy_state (w : World) (vb : Value) : HyI w vb [] 0 0 ((((w.alloc (.cells #[vb] 37)).alloc (.cells #[.slice none 0 0, .slice none 0 0, .int .i64 0] 82)).alloc (.cells #[.int .i64 0] 24)).alloc (.cells #[.slice none 0 0, .slice none 0 0, .int .i64 0] 82)) := by
  have hB := (hy_start w vb).below (below_alloc (Below.refl _ _) (.cells #[.slice none 0 0, .slice none 0 0, .int .i64 0] 82))
  refine ⟨_, _, 0, [], hB, blk_alloc (blk_alloc (blk_alloc (blk_new _ _) _) _) _, ?_, World.ownsRow_nil _ _ _ _, World.ownsRow_nil _ _ _ _, Nat.le_refl _⟩
  have := blk_new (((w.alloc (.cells #[vb] 37)).alloc (.cells #[.slice none 0 0, .slice none 0 0, .int .i64 0] 82)).alloc (.cells #[.int .i64 0] 24)) (.cells #[.slice none 0 0, .slice none 0 0, .int .i64 0] 82)
  rwa [World.size_alloc, World.size_alloc, World.size_alloc] at this
set_option maxRecDepth 100000 in
set_option maxHeartbeats 4000000 in
theorem hy_all_arg (A : Option Addr) (c : Nat) (b : List Int) (W count : Int) (w : World) (h : W < 0 ∨ 32 < W ∨ count < 0) :
    Calls Try.prog 53 #[.slice A b.length c, .int .i64 W, .int .i64 count] w (HyEnd w 2 [] 0) := by
  have MN := Aside0.mk (fun why W => hy_must_no why W)
  have h : W < 0 ∨ (0 ≤ W ∧ 32 < W) ∨ (0 ≤ W ∧ W ≤ 32 ∧ count < 0) := by omega
  rcases h with h | ⟨h1, h⟩ | ⟨h1, h2, h⟩
  · have d1 := decide_eq_false (show ¬ 0 ≤ W by omega)
    clear h
    go_enter_defers Try.func53, Try.ntmps53
    go_wp2_with fail
    refine (MN.out _ _).mono ?_
    rintro e W1 ⟨rfl, rfl⟩
    exact hy_giveup _ rfl rfl (hy_start _ _)
  · have d1 := decide_eq_true h1
    have d2 := decide_eq_false (show ¬ W ≤ 32 by omega)
    clear h h1
    go_enter_defers Try.func53, Try.ntmps53
    go_wp2_with fail
    refine (MN.out _ _).mono ?_
    rintro e W1 ⟨rfl, rfl⟩
    exact hy_giveup _ rfl rfl (hy_start _ _)
  · have d1 := decide_eq_true h1
    have d2 := decide_eq_true h2
    have d3 := decide_eq_false (show ¬ 0 ≤ count by omega)
    clear h h1 h2
    go_enter_defers Try.func53, Try.ntmps53
    go_wp2_with fail
    refine (MN.out _ _).mono ?_
    rintro e W1 ⟨rfl, rfl⟩
    exact hy_giveup _ rfl rfl (hy_start _ _)
set_option maxRecDepth 100000 in
set_option maxHeartbeats 4000000 in
theorem hy_all_long (A : Option Addr) (c : Nat) (b : List Int) (W count : Int) (w : World) (h1 : 0 ≤ W) (h2 : W ≤ 32) (h3 : 0 ≤ count) (h : 1048576 < (b.length : Int) ∨ 65536 < count) :
    Calls Try.prog 53 #[.slice A b.length c, .int .i64 W, .int .i64 count] w (HyEnd w 3 [] 0) := by
  have MN := Aside0.mk (fun why W => hy_must_no why W)
  have MO := Aside0.mk (fun why W => hy_must_ok why W)
  have d1 := decide_eq_true h1
  have d2 := decide_eq_true h2
  have d3 := decide_eq_true h3
  have h : 1048576 < (b.length : Int) ∨ ((b.length : Int) ≤ 1048576 ∧ 65536 < count) := by omega
  rcases h with h | ⟨h4, h⟩
  · have d4 := decide_eq_false (show ¬ (b.length : Int) ≤ 1048576 by omega)
    clear h h1 h2 h3
    go_enter_defers Try.func53, Try.ntmps53
    go_wp2_with fail
    refine (MO.out _ _).mono ?_
    rintro e W1 ⟨⟨v, rfl⟩, rfl⟩
    go_wp2_with fail
    refine (MN.out _ _).mono ?_
    rintro e W1 ⟨rfl, rfl⟩
    exact hy_giveup _ rfl rfl (hy_start _ _)
  · have d4 := decide_eq_true h4
    have d5 := decide_eq_false (show ¬ count ≤ 65536 by omega)
    clear h h1 h2 h3 h4
    go_enter_defers Try.func53, Try.ntmps53
    go_wp2_with fail
    refine (MO.out _ _).mono ?_
    rintro e W1 ⟨⟨v, rfl⟩, rfl⟩
    go_wp2_with fail
    refine (MN.out _ _).mono ?_
    rintro e W1 ⟨rfl, rfl⟩
    exact hy_giveup _ rfl rfl (hy_start _ _)
set_option maxRecDepth 100000 in
set_option maxHeartbeats 8000000 in
theorem hy_all_main (k : Nat) (A : Option Addr) (c : Nat) (b : List Int) (W count : Int) (r : Int) (l' : List Int) (a' : Int) (w : World) (hC : Kd.C (Kd.int .u8) w A b.length b) (hc : b.length ≤ c) (h1 : 0 ≤ W) (h2 : W ≤ 32) (h3 : 0 ≤ count) (h4 : b.length ≤ 1048576) (h5 : count ≤ 65536)
    (h : hyAll k b W count [] 0 = some (r, l', a')) :
    Calls Try.prog 53 #[.slice A b.length c, .int .i64 W, .int .i64 count] w (HyEnd w r l' a') := by
  have MO := Aside0.mk (fun why W => hy_must_ok why W)
  have d1 := decide_eq_true h1
  have d2 := decide_eq_true h2
  have d3 := decide_eq_true h3
  have d4 := decide_eq_true (show (b.length : Int) ≤ 1048576 by omega)
  have d5 := decide_eq_true h5
  have HC := Aside0.mk hC
  have HA := Aside0.mk h
  have hmf : ∀ (fn : Fn) (first cap : Array Value) (w : World), (Instr.makeFunc fn first cap).run Try.prog w = .ok (.func fn first cap) w := fun _ _ _ _ => rfl
  clear hC h
  go_enter_defers Try.func53, Try.ntmps53
  go_wp2_with fail
  refine (MO.out _ _).mono ?_
  rintro e W1 ⟨⟨v, rfl⟩, hW1⟩
  have HS := Aside0.mk (hy_state w (.slice A b.length c))
  rw [← hW1] at HS
  have q0 : W1.cell? ⟨w.heap.size, 0, none⟩ = some (.slice A b.length c) := by rw [hW1]; exact blk_cell (blk_alloc (blk_alloc (blk_new _ _) _) _) 0
  have hsz : W1.heap.size = w.heap.size + 3 := by rw [hW1, World.size_alloc, World.size_alloc, World.size_alloc]
  clear hW1
  have hsz := Aside0.mk hsz
  go_wp2_with fail
  refine (MO.out _ _).mono ?_
  rintro e W2 ⟨⟨v2, rfl⟩, rfl⟩
  go_wp2_with fail
  clear q0 d1 d2 d3 d4 d5 hsz
  go_loopg [10] k (fun kq v10 w' => ∃ (l1 : List Int) (a1 : Int) (M : Nat), Aside0 (hyAll kq b W count l1 a1 = some (r, l', a')) ∧ Aside0 (kq ≤ k) ∧ Aside0 (HyI w (.slice A b.length c) l1 a1 M w') ∧ Aside0 (M ≤ l1.length) ∧ (l1.length : Int) ≤ count ∧ 0 ≤ a1 ∧ a1 ≤ b.length)
  case atStart => exact ⟨[], 0, 0, HA, ⟨Nat.le_refl _⟩, HS, ⟨Nat.le_refl _⟩, h3, by omega, by omega⟩
  case round =>
    clear HA HS
    obtain ⟨l1, a1, M, HA, HK, HI, HM, hlc, ha0, ha1⟩ := hrel
    cases gk with
    | zero => exact absurd HA.out (by simp [hyAll])
    | succ k1 =>
      have hA := HA.out
      rw [hyAll] at hA
      clear HA
      obtain ⟨lv, rv, m, rs, hB, g2, g3, g4, g5, g6⟩ := HI.out
      obtain ⟨Al, cl, rfl⟩ := own_form g4
      have q0 : wr.cell? ⟨w.heap.size + 3, 0, none⟩ = some (.slice Al l1.length cl) := blk_cell g3 0
      have q3 : wr.cell? ⟨w.heap.size, 0, none⟩ = some (.slice A b.length c) := blk_cell g2 0
      by_cases hlt : (l1.length : Int) < count
      · have hltb := decide_eq_true hlt
        rw [if_pos hlt] at hA
        obtain ⟨⟨h, nx, er⟩, hx, hA⟩ := Option.bind_eq_some_iff.1 hA
        have HH := Aside0.mk (hy_head k1 w A c b a1 l1 M h nx er wr HC.out hc HI.out hx)
        have HA := Aside0.mk hA
        clear hx hA hB g2 g3 g4 g5 g6 HI
        go_wp2_with fail
        refine HH.out.mono ?_
        rintro e W3 (⟨rfl, hh0, hh1, rfl, hI⟩ | ⟨rfl, hh, rfl, hB⟩ | ⟨hne, rfl, hB⟩)
        · have HI := Aside0.mk hI
          have hA := HA.out
          rw [if_pos rfl, if_pos ⟨hh0, hh1⟩] at hA
          clear hI HH q0 q3 HA
          by_cases hnx : 0 ≤ nx ∧ nx ≤ (b.length : Int)
          · rw [if_pos hnx] at hA
            obtain ⟨hn0, hn1⟩ := hnx
            obtain ⟨⟨pr, pl, pa⟩, hp, hA⟩ := Option.bind_eq_some_iff.1 hA
            have HA := Aside0.mk hA
            clear hA
            have HM2 := Aside0.mk (show M ≤ 200000000 by have := HM.out; omega)
            by_cases he : h % 2 = 0
            · have heb : (h % 2 == 0) = true := by simp [he]
              rw [if_pos he] at hp
              have HP := Aside0.mk (hy_repeated k1 w A c b W (h / 2) (count - l1.length) nx l1 pr pl pa W3 HC.out hc M HI.out HM2.out h1 h2 (by omega) (by omega) (by omega) (by omega) hn0 hn1 h4 (by omega) hp)
              obtain ⟨lv, rv, m, rs, hB, g2, g3, g4, g5, g6⟩ := HI.out
              obtain ⟨Al, cl, rfl⟩ := own_form g4
              have q0 : W3.cell? ⟨w.heap.size + 3, 0, none⟩ = some (.slice Al l1.length cl) := blk_cell g3 0
              have q3 : W3.cell? ⟨w.heap.size, 0, none⟩ = some (.slice A b.length c) := blk_cell g2 0
              clear he hp HI hB g2 g3 g4 g5 g6
              go_wp2_with fail
              refine HP.out.mono ?_
              rintro e W4 (⟨rfl, ⟨v4, rfl⟩, hI⟩ | ⟨hne, rfl, hB⟩)
              · have hA := HA.out
                rw [if_pos rfl] at hA
                by_cases hq : l1.length < pl.length ∧ (pl.length : Int) ≤ count ∧ 0 ≤ pa ∧ pa ≤ (b.length : Int)
                · rw [if_pos hq] at hA
                  obtain ⟨hq1, hq2, hq3, hq4⟩ := hq
                  have HA9 := Aside0.mk hA
                  have HI := Aside0.mk hI
                  clear hA hI q0 q3 HP
                  go_wp2
                  go_roundg k1
                  case measure => have := HK.out; omega
                  case rel => exact ⟨pl, pa, M + 1, HA9, ⟨by have := HK.out; omega⟩, HI, ⟨by have := HM.out; omega⟩, hq2, hq3, hq4⟩
                · rw [if_neg hq] at hA
                  exact absurd hA (by simp)
              · have hA := HA.out
                rw [if_neg hne] at hA
                obtain ⟨rfl, rfl, rfl⟩ : pr = r ∧ [] = l' ∧ 0 = a' := by simpa using hA
                exact hy_giveup _ rfl rfl hB
            · have heb : (h % 2 == 0) = false := by simp [he]
              rw [if_neg he] at hp
              have HP := Aside0.mk (hy_packed k1 w A c b W (h / 2) (count - l1.length) nx l1 pr pl pa W3 HC.out hc M HI.out HM2.out h1 h2 (by omega) (by omega) (by omega) (by omega) hn0 hn1 h4 (by omega) hp)
              obtain ⟨lv, rv, m, rs, hB, g2, g3, g4, g5, g6⟩ := HI.out
              obtain ⟨Al, cl, rfl⟩ := own_form g4
              have q0 : W3.cell? ⟨w.heap.size + 3, 0, none⟩ = some (.slice Al l1.length cl) := blk_cell g3 0
              have q3 : W3.cell? ⟨w.heap.size, 0, none⟩ = some (.slice A b.length c) := blk_cell g2 0
              clear he hp HI hB g2 g3 g4 g5 g6
              go_wp2_with fail
              refine HP.out.mono ?_
              rintro e W4 (⟨rfl, ⟨v4, rfl⟩, hI⟩ | ⟨hne, rfl, hB⟩)
              · have hA := HA.out
                rw [if_pos rfl] at hA
                by_cases hq : l1.length < pl.length ∧ (pl.length : Int) ≤ count ∧ 0 ≤ pa ∧ pa ≤ (b.length : Int)
                · rw [if_pos hq] at hA
                  obtain ⟨hq1, hq2, hq3, hq4⟩ := hq
                  have HA9 := Aside0.mk hA
                  have HI := Aside0.mk hI
                  clear hA hI q0 q3 HP
                  go_wp2
                  go_roundg k1
                  case measure => have := HK.out; omega
                  case rel => exact ⟨pl, pa, M + 1, HA9, ⟨by have := HK.out; omega⟩, HI, ⟨by have := HM.out; omega⟩, hq2, hq3, hq4⟩
                · rw [if_neg hq] at hA
                  exact absurd hA (by simp)
              · have hA := HA.out
                rw [if_neg hne] at hA
                obtain ⟨rfl, rfl, rfl⟩ : pr = r ∧ [] = l' ∧ 0 = a' := by simpa using hA
                exact hy_giveup _ rfl rfl hB
          · rw [if_neg hnx] at hA
            exact absurd hA (by simp)
        · have hA := HA.out
          rw [if_pos rfl, if_neg hh] at hA
          obtain ⟨rfl, rfl, rfl⟩ : 8 = r ∧ [] = l' ∧ 0 = a' := by simpa using hA
          exact hy_giveup _ rfl rfl hB
        · have hA := HA.out
          rw [if_neg hne] at hA
          obtain ⟨rfl, rfl, rfl⟩ : er = r ∧ [] = l' ∧ 0 = a' := by simpa using hA
          exact hy_giveup _ rfl rfl hB
      · have hltb := decide_eq_false hlt
        rw [if_neg hlt] at hA
        obtain ⟨rfl, rfl, rfl⟩ : 0 = r ∧ l1 = l' ∧ a1 = a' := by simpa using hA
        obtain ⟨Ar, cr, rfl⟩ := own_form g5
        have HB := Aside0.mk hB
        have G3 := Aside0.mk g3
        have G4 := Aside0.mk g4
        have G6 := Aside0.mk (show (wr.setRow (w.heap.size + 1) #[.slice Al l1.length cl, (.slice Ar m cr), .int .i64 a1]).heap[w.heap.size + 1]? = some (.cells #[.slice Al l1.length cl, (.slice Ar m cr), .int .i64 a1] 82 (0, 0)) from setRow_heap _ _ _ _ _ _ hB.2.1)
        have G7 := Aside0.mk (show (wr.setRow (w.heap.size + 1) #[.slice Al l1.length cl, (.slice Ar m cr), .int .i64 a1]).heap[w.heap.size + 1 + 1]? = some (.cells #[.int .i64 0] 24 (0, 0)) by rw [setRow_other _ _ _ _ (by omega)]; exact hB.2.2)
        have hone : (#[.slice Al l1.length cl, (.slice Ar m cr), .int .i64 a1] : Array Value).all (·.oneCell') = true := by simp [Value.oneCell']
        have q7 : (wr.setRow (w.heap.size + 1) #[.slice Al l1.length cl, (.slice Ar m cr), .int .i64 a1]).cell? ⟨w.heap.size + 1 + 1, 0, none⟩ = some (.int .i64 0) := blk_cell G7.out 0
        have f7 : (wr.setRow (w.heap.size + 1) #[.slice Al l1.length cl, (.slice Ar m cr), .int .i64 a1]).frozen? ⟨w.heap.size + 1 + 1, 0, none⟩ = false := blk_frozen G7.out 0
        have HON := Aside0.mk hone
        clear hA hB g2 g3 g4 g5 g6 q3 hone HI
        go_wp2_with (first | (refine wpList_load_row rfl _ _ rfl (w.heap.size + 3) rfl 82 #[.slice Al l1.length cl, (.slice Ar m cr), .int .i64 a1] (0, 0) _ G3.out Try.underlying82 rfl (by kernel_rfl) ?_) | (refine wpList_store_row rfl 82 (.tmp 6) (.tmp 61) rfl (w.heap.size + 1) #[.slice Al l1.length cl, (.slice Ar m cr), .int .i64 a1] rfl rfl 82 #[.slice none 0 0, .slice none 0 0, .int .i64 0] HB.out.2.1 (by kernel_rfl) rfl HON.out ?_))
        have hg : wr.grownBy (wr.setRow (w.heap.size + 1) #[.slice Al l1.length cl, (.slice Ar m cr), .int .i64 a1]) (some (w.heap.size + 1)) := ⟨rfl, rfl, rfl, by simp, fun k hk hne => setRow_other _ _ _ _ (fun e => hne (by rw [e]))⟩
        have ho1 := own_other G4.out hg (.inr (fun e => own_ne G4.out HB.out.2.1 (by decide) e.symm))
        exact hy_done _ rfl rfl ((below_setRow HB.out.1 (by omega) _).setCell (p := ⟨w.heap.size + 1 + 1, 0, none⟩) (by simp; omega) _) (blk_far G6.out (by simp) _) (blk_set G7.out 0 _) (own_setCell ho1 (own_ne ho1 G7.out (by decide)) _)
theorem hy_all (k : Nat) (A : Option Addr) (c : Nat) (b : List Int) (W count : Int) (r : Int) (l' : List Int) (a' : Int) (w : World) (hC : Kd.C (Kd.int .u8) w A b.length b) (hc : b.length ≤ c) (h : hyF k b W count = some (r, l', a')) :
    Calls Try.prog 53 #[.slice A b.length c, .int .i64 W, .int .i64 count] w (HyEnd w r l' a') := by
  unfold hyF at h
  by_cases c1 : W < 0
  · rw [if_pos c1] at h
    obtain ⟨rfl, rfl, rfl⟩ : 2 = r ∧ [] = l' ∧ 0 = a' := by simpa using h
    exact hy_all_arg A c b W count w (.inl c1)
  rw [if_neg c1] at h
  by_cases c2 : 32 < W
  · rw [if_pos c2] at h
    obtain ⟨rfl, rfl, rfl⟩ : 2 = r ∧ [] = l' ∧ 0 = a' := by simpa using h
    exact hy_all_arg A c b W count w (.inr (.inl c2))
  rw [if_neg c2] at h
  by_cases c3 : count < 0
  · rw [if_pos c3] at h
    obtain ⟨rfl, rfl, rfl⟩ : 2 = r ∧ [] = l' ∧ 0 = a' := by simpa using h
    exact hy_all_arg A c b W count w (.inr (.inr c3))
  rw [if_neg c3] at h
  by_cases c4 : 1048576 < (b.length : Int)
  · rw [if_pos c4] at h
    obtain ⟨rfl, rfl, rfl⟩ : 3 = r ∧ [] = l' ∧ 0 = a' := by simpa using h
    exact hy_all_long A c b W count w (by omega) (by omega) (by omega) (.inl c4)
  rw [if_neg c4] at h
  by_cases c5 : 65536 < count
  · rw [if_pos c5] at h
    obtain ⟨rfl, rfl, rfl⟩ : 3 = r ∧ [] = l' ∧ 0 = a' := by simpa using h
    exact hy_all_long A c b W count w (by omega) (by omega) (by omega) (.inr c5)
  rw [if_neg c5] at h
  exact hy_all_main k A c b W count r l' a' w hC hc (by omega) (by omega) (by omega) (by omega) (by omega) h
end Go.Proofs.Ytpibhiacmceekaa.X
end
