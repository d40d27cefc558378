/- PlainAll: texts of this seat in one (wip/merge.py): X9, X10, Ri, Bi, X11, X12, X42, Wz, Ww, X13, Rg, Rb, Rk, X14, X15. -/
import Derived.Test.YtcklkngljapecaaGPlainAll0
import Derived.StillTailTactics
import Derived.RangeFuncNested
import Derived.RangeFuncBound
import Derived.RangeFuncCalls
import Derived.RangeFuncLeaves
import Derived.RangeFuncFrom
import Derived.RangeFuncWrites
import Derived.RangeFuncBox
import Derived.OrdersIn
import Derived.OwnWalkIn
import Derived.TacticsInMore
import Derived.LoopNIn
import Derived.LoopIn
import Derived.Shelf.Abstract
import Derived.Outline
import Derived.Laws.CopyOwn
import Derived.Deep.RegionHeld3
section
namespace Go.Proofs.Ytcklkngljapecaa.X
open Go.RowKit Go.Proofs.YtcklkngljapecaaW.PrintWords Go.Proofs.YtcklkngljapecaaW.PrintLast Go.Proofs.YtcklkngljapecaaW.PrintMore
attribute [local go_sem] max2_int min2_int max_two min_two max_three min_three max_four min_four
set_option linter.unusedVariables false
set_option linter.unusedSimpArgs false
def datum_Bool.f (a0 : Bool) : Option (Int × Int × ByteArray) := if a0 = true then (some (0, 1, (⟨#[]⟩ : ByteArray))) else (some (0, 0, (⟨#[]⟩ : ByteArray)))
set_option maxHeartbeats 8000000 in
set_option maxRecDepth 100000 in
theorem datum_Bool.calls (a0 : Bool) (r1 : Int) (r2 : Int) (r3 : ByteArray) (w : World) (h : datum_Bool.f a0 = some (r1, r2, r3)) :
  Calls Try.prog 20 #[.bool a0] w fun e w' => e = .returned (.agg #[.int .i64 r1, .int .i64 r2, .string r3]) ∧ Below w.heap.size w w' := by
 have hu30 := Try.underlying30
 have HB := Aside0.mk (Below.refl w.heap.size w)
 have H : (if a0 = true then (some (0, 1, (⟨#[]⟩ : ByteArray))) else (some (0, 0, (⟨#[]⟩ : ByteArray)))) = some (r1, r2, r3) := h
 clear h
 by_cases c2 : a0 = true
 ·subst c2
  have H1 : (some (0, 1, (⟨#[]⟩ : ByteArray))) = some (r1, r2, r3) := by rw [if_pos rfl] at H; exact H
  clear H
  have H := H1
  clear H1
  simp only [Option.some.injEq, Prod.mk.injEq] at H
  obtain ⟨rfl, rfl, rfl⟩ := H
  go_enter Try.func20, Try.ntmps20
  go_wp2_with (first | ((with_reducible refine gate_dst (N := 2) rfl ?_); refine box_event ?hg (N := 2) ?hd (cs := #[.int .i64 0, .int .i64 0, .string (⟨#[]⟩ : ByteArray)]) (t := 30) ?hr ?_; (case hd => rfl); (case hg => rfl); (case hr => first | (go_simp; done) | (go_simp; rfl)); intro gb103 hg w3 hbox hb; have n0_ := Aside0.mk (below_step (by repeat (first | (with_reducible first | exact HB.out | apply below_alloc | apply pw_below_drewN | apply below_drew1) | exact HB.out)) hb); have n1_ := Aside0.mk (hbox); have n2_ := Aside0.mk ((by rw [hg]; exact (below_size (by repeat (first | (with_reducible first | exact HB.out | apply below_alloc | apply pw_below_drewN | apply below_drew1) | exact HB.out))) : w.heap.size ≤ gb103)); have n3_ := Aside0.mk ((by rw [hg]; exact (below_size (by repeat (first | (with_reducible first | exact HB.out | apply below_alloc | apply pw_below_drewN | apply below_drew1) | exact HB.out))) : w.heap.size ≤ gb103)); clear HB; have HB := n0_; have BK103 := n1_; have GW103 := n2_; have GE103 := n3_; clear n0_ n1_ n2_ n3_; clear hb hbox hg; have hcz4_0 : w3.cell? ⟨gb103, 0, none⟩ = some (.int .i64 0) := (blk_cell BK103.out 0).trans rfl; have hcz4_1 : w3.cell? ⟨gb103, 1, none⟩ = some (.int .i64 0) := (blk_cell BK103.out 1).trans rfl; have hcz4_2 : w3.cell? ⟨gb103, 2, none⟩ = some (.string (⟨#[]⟩ : ByteArray)) := (blk_cell BK103.out 2).trans rfl; have hfz4_0 := blk_frozen BK103.out 0; have hfz4_1 := blk_frozen BK103.out 1; have hfz4_2 := blk_frozen BK103.out 2))
  refine bodyPost_ret (results_cell_row rfl _ _ gb103 30 #[.int .i64 0, .int .i64 1, .string (⟨#[]⟩ : ByteArray)] (0, 0) _ rfl (by (with_reducible repeat (first | refine blk_drewN ?_ _ | refine blk_drew ?_ | refine blk_alloc ?_ _)); refine blk_put (cs := #[.int .i64 0, .int .i64 1, .string (⟨#[]⟩ : ByteArray)]) ?_ 2 _ rfl; (with_reducible repeat (first | refine blk_drewN ?_ _ | refine blk_drew ?_ | refine blk_alloc ?_ _)); refine blk_put (cs := #[.int .i64 0, .int .i64 0, .string (⟨#[]⟩ : ByteArray)]) ?_ 1 _ rfl; (with_reducible repeat (first | refine blk_drewN ?_ _ | refine blk_drew ?_ | refine blk_alloc ?_ _)); refine blk_put (cs := #[.int .i64 0, .int .i64 0, .string (⟨#[]⟩ : ByteArray)]) ?_ 0 _ rfl; (with_reducible repeat (first | refine blk_drewN ?_ _ | refine blk_drew ?_ | refine blk_alloc ?_ _)); exact BK103.out) Try.underlying30 rfl (by kernel_rfl)) rfl ?_
  exact ⟨by first | rfl | (simp [errW_none, errW_some] <;> rfl) | (simp [*, errW_none, errW_some] <;> rfl), by repeat (first | (with_reducible first | exact HB.out | apply below_alloc | apply pw_below_drewN | apply below_drew1 | refine below_set ?_ GE103.out) | exact HB.out)⟩
 ·replace c2 := Bool.eq_false_iff.mpr c2
  subst c2
  have H1 : (some (0, 0, (⟨#[]⟩ : ByteArray))) = some (r1, r2, r3) := by rw [if_neg (show ¬ (false = true) by decide)] at H; exact H
  clear H
  have H := H1
  clear H1
  simp only [Option.some.injEq, Prod.mk.injEq] at H
  obtain ⟨rfl, rfl, rfl⟩ := H
  go_enter Try.func20, Try.ntmps20
  go_wp2_with (first | ((with_reducible refine gate_dst (N := 2) rfl ?_); refine box_event ?hg (N := 2) ?hd (cs := #[.int .i64 0, .int .i64 0, .string (⟨#[]⟩ : ByteArray)]) (t := 30) ?hr ?_; (case hd => rfl); (case hg => rfl); (case hr => first | (go_simp; done) | (go_simp; rfl)); intro gb103 hg w5 hbox hb; have n0_ := Aside0.mk (below_step (by repeat (first | (with_reducible first | exact HB.out | apply below_alloc | apply pw_below_drewN | apply below_drew1) | exact HB.out)) hb); have n1_ := Aside0.mk (hbox); have n2_ := Aside0.mk ((by rw [hg]; exact (below_size (by repeat (first | (with_reducible first | exact HB.out | apply below_alloc | apply pw_below_drewN | apply below_drew1) | exact HB.out))) : w.heap.size ≤ gb103)); have n3_ := Aside0.mk ((by rw [hg]; exact (below_size (by repeat (first | (with_reducible first | exact HB.out | apply below_alloc | apply pw_below_drewN | apply below_drew1) | exact HB.out))) : w.heap.size ≤ gb103)); clear HB; have HB := n0_; have BK103 := n1_; have GW103 := n2_; have GE103 := n3_; clear n0_ n1_ n2_ n3_; clear hb hbox hg; have hcz6_0 : w5.cell? ⟨gb103, 0, none⟩ = some (.int .i64 0) := (blk_cell BK103.out 0).trans rfl; have hcz6_1 : w5.cell? ⟨gb103, 1, none⟩ = some (.int .i64 0) := (blk_cell BK103.out 1).trans rfl; have hcz6_2 : w5.cell? ⟨gb103, 2, none⟩ = some (.string (⟨#[]⟩ : ByteArray)) := (blk_cell BK103.out 2).trans rfl; have hfz6_0 := blk_frozen BK103.out 0; have hfz6_1 := blk_frozen BK103.out 1; have hfz6_2 := blk_frozen BK103.out 2))
  refine bodyPost_ret (results_cell_row rfl _ _ gb103 30 #[.int .i64 0, .int .i64 0, .string (⟨#[]⟩ : ByteArray)] (0, 0) _ rfl (by (with_reducible repeat (first | refine blk_drewN ?_ _ | refine blk_drew ?_ | refine blk_alloc ?_ _)); refine blk_put (cs := #[.int .i64 0, .int .i64 0, .string (⟨#[]⟩ : ByteArray)]) ?_ 2 _ rfl; (with_reducible repeat (first | refine blk_drewN ?_ _ | refine blk_drew ?_ | refine blk_alloc ?_ _)); refine blk_put (cs := #[.int .i64 0, .int .i64 0, .string (⟨#[]⟩ : ByteArray)]) ?_ 1 _ rfl; (with_reducible repeat (first | refine blk_drewN ?_ _ | refine blk_drew ?_ | refine blk_alloc ?_ _)); refine blk_put (cs := #[.int .i64 0, .int .i64 0, .string (⟨#[]⟩ : ByteArray)]) ?_ 0 _ rfl; (with_reducible repeat (first | refine blk_drewN ?_ _ | refine blk_drew ?_ | refine blk_alloc ?_ _)); exact BK103.out) Try.underlying30 rfl (by kernel_rfl)) rfl ?_
  exact ⟨by first | rfl | (simp [errW_none, errW_some] <;> rfl) | (simp [*, errW_none, errW_some] <;> rfl), by repeat (first | (with_reducible first | exact HB.out | apply below_alloc | apply pw_below_drewN | apply below_drew1 | refine below_set ?_ GE103.out) | exact HB.out)⟩
end Go.Proofs.Ytcklkngljapecaa.X
end

section
namespace Go.Proofs.Ytcklkngljapecaa.X
open Go.RowKit Go.Proofs.YtcklkngljapecaaW.PrintWords Go.Proofs.YtcklkngljapecaaW.PrintLast Go.Proofs.YtcklkngljapecaaW.PrintMore
attribute [local go_sem] max2_int min2_int max_two min_two max_three min_three max_four min_four
set_option linter.unusedVariables false
set_option linter.unusedSimpArgs false
def bits_Size.j0 : Nat → Int → Int → Bool → Option (Int × Int)
 | 0, _, _, _ => none
 | k + 1, x0, x1, x6 => if x6 = true then (some (0, 2)) else (if x1 > 1048576 then (some (0, 3)) else (if (wrap64 (Int.tdiv (wrap64 ((wrap64 (x1 * x0)) + 7)) 8)) > 1048576 then (some (0, 3)) else (some (wrap64 (Int.tdiv (wrap64 ((wrap64 (x1 * x0)) + 7)) 8), 0))))
def bits_Size.f (k : Nat) (a0 : Int) (a1 : Int) : Option (Int × Int) := if a0 < 0 then (bits_Size.j0 k a0 a1 true) else (if a0 > 64 then (bits_Size.j0 k a0 a1 true) else (bits_Size.j0 k a0 a1 (decide (a1 < 0))))
theorem bits_Size.mono_l : ∀ k, (∀ y0 y1 y2, LeO (bits_Size.j0 k y0 y1 y2) (bits_Size.j0 (k + 1) y0 y1 y2))
 | 0 => fun _ _ _ r h => by simp [bits_Size.j0] at h
 | k + 1 => by
  have ih0 := bits_Size.mono_l k
  ·intro y0 y1 y2
   unfold bits_Size.j0
   repeat' first
   | (with_reducible exact ih0 _ _ _)
   | (with_reducible exact LeO.refl _)
   | (with_reducible exact LeO.none _)
   | (with_reducible refine LeO.ite ?_ ?_)
   | (with_reducible refine LeO.bind ?_ (fun _ => ?_))
   | exact ih0 _ _ _
   | exact LeO.none _
   | refine LeO.ite ?_ ?_
   | refine LeO.bind ?_ (fun _ => ?_)
theorem bits_Size.mono : ∀ a0 a1 k, LeO (bits_Size.f k a0 a1) (bits_Size.f (k + 1) a0 a1) := by
 intro a0 a1 k
 have ih0 := bits_Size.mono_l k
 unfold bits_Size.f
 repeat' first
   | (with_reducible exact ih0 _ _ _)
   | (with_reducible exact LeO.refl _)
   | (with_reducible exact LeO.none _)
   | (with_reducible refine LeO.ite ?_ ?_)
   | (with_reducible refine LeO.bind ?_ (fun _ => ?_))
   | exact ih0 _ _ _
   | exact LeO.none _
   | refine LeO.ite ?_ ?_
   | refine LeO.bind ?_ (fun _ => ?_)
set_option maxHeartbeats 8000000 in
set_option maxRecDepth 100000 in
theorem bits_Size.calls (k : Nat) (a0 : Int) (a1 : Int) (r1 : Int) (r2 : Int) (w : World) (h : bits_Size.f k a0 a1 = some (r1, r2)) :
  Calls Try.prog 39 #[.int .i64 a0, .int .i64 a1] w fun e w' => e = .returned (.tuple #[.int .i64 r1, .int .i64 r2]) ∧ Drawn0 w w' := by
 have H : (if a0 < 0 then (bits_Size.j0 k a0 a1 true) else (if a0 > 64 then (bits_Size.j0 k a0 a1 true) else (bits_Size.j0 k a0 a1 (decide (a1 < 0))))) = some (r1, r2) := h
 clear h
 have HC3 := Aside0.mk H
 clear H
 go_enter Try.func39, Try.ntmps39
 go_upto_region 1 with (fail)
 go_cut [6] (fun v6 wc => ∃ (kq : Nat) (x6_2 : Bool), v6 = .bool x6_2 ∧ Aside0 (bits_Size.j0 kq a0 a1 x6_2 = some (r1, r2)) ∧ Aside0 (kq ≤ k) ∧ Drawn0 w wc)
 case first =>
  have H := HC3.out
  clear HC3
  by_cases c4 : a0 < 0
  ·rw [if_pos c4] at H
   have c4b0 : decide (a0 < 0) = true := decide_eq_true c4
   clear c4
   (first | rw [c4b0] | (simp only [i64_w, i32_w]; rw [c4b0]) | skip)
   have H' := Aside0.mk H
   clear H
   go_wp2
   go_meet
   case rel => exact ⟨_, (true), (by first | rfl | (simp; done) | (simp [*]; done)), H', ⟨by first | omega | exact Nat.le_refl _⟩, by repeat (first | exact Drawn0.refl _ | apply Drawn0.step)⟩
  ·rw [if_neg c4] at H
   have c4b0 : decide (a0 < 0) = false := decide_eq_false c4
   clear c4
   (first | rw [c4b0] | (simp only [i64_w, i32_w]; rw [c4b0]) | skip)
   by_cases c5 : a0 > 64
   ·rw [if_pos c5] at H
    have c5b0 : decide (64 < a0) = true := decide_eq_true c5
    clear c5
    have H' := Aside0.mk H
    clear H
    go_wp2
    go_meet
    case rel => exact ⟨_, (true), (by first | rfl | (simp; done) | (simp [*]; done)), H', ⟨by first | omega | exact Nat.le_refl _⟩, by repeat (first | exact Drawn0.refl _ | apply Drawn0.step)⟩
   ·rw [if_neg c5] at H
    have c5b0 : decide (64 < a0) = false := decide_eq_false c5
    clear c5
    have H' := Aside0.mk H
    clear H
    go_wp2
    go_meet
    case rel => exact ⟨_, (decide (a1 < 0)), (by first | rfl | (simp; done) | (simp [*]; done)), H', ⟨by first | omega | exact Nat.le_refl _⟩, by repeat (first | exact Drawn0.refl _ | apply Drawn0.step)⟩
 case rest =>
  clear HC3
  try clear p2
  try clear c3
  try clear c4
  try clear c4b0
  try clear c5
  try clear c5b0
  obtain ⟨kq, x6_2, rfl, HA, HJ2, ⟨mc2, rfl⟩⟩ := hcut
  cases kq with
  | zero => exact absurd HA.out (by simp [bits_Size.j0])
  | succ kj2 =>
   have H := HA.out
   clear HA
   simp only [bits_Size.j0] at H
   by_cases c6 : x6_2 = true
   ·subst c6
    have H1 : (some (0, 2)) = some (r1, r2) := by rw [if_pos rfl] at H; exact H
    clear H
    have H := H1
    clear H1
    simp only [Option.some.injEq, Prod.mk.injEq] at H
    obtain ⟨rfl, rfl⟩ := H
    go_wp2
    go_ret2
    exact ⟨by first | rfl | (simp; done) | (simp [*]; done), by repeat (first | exact Drawn0.refl _ | apply Drawn0.step)⟩
   ·replace c6 := Bool.eq_false_iff.mpr c6
    subst c6
    have H1 : (if a1 > 1048576 then (some (0, 3)) else (if (wrap64 (Int.tdiv (wrap64 ((wrap64 (a1 * a0)) + 7)) 8)) > 1048576 then (some (0, 3)) else (some (wrap64 (Int.tdiv (wrap64 ((wrap64 (a1 * a0)) + 7)) 8), 0)))) = some (r1, r2) := by rw [if_neg (show ¬ (false = true) by decide)] at H; exact H
    clear H
    have H := H1
    clear H1
    by_cases c7 : a1 > 1048576
    ·rw [if_pos c7] at H
     have c7b0 : decide (1048576 < a1) = true := decide_eq_true c7
     clear c7
     simp only [Option.some.injEq, Prod.mk.injEq] at H
     obtain ⟨rfl, rfl⟩ := H
     go_wp2
     go_ret2
     exact ⟨by first | rfl | (simp; done) | (simp [*]; done), by repeat (first | exact Drawn0.refl _ | apply Drawn0.step)⟩
    ·rw [if_neg c7] at H
     have c7b0 : decide (1048576 < a1) = false := decide_eq_false c7
     clear c7
     by_cases c8 : (wrap64 (Int.tdiv (wrap64 ((wrap64 (a1 * a0)) + 7)) 8)) > 1048576
     ·rw [if_pos c8] at H
      have c8b0 : decide (1048576 < (wrap64 (Int.tdiv (wrap64 ((wrap64 (a1 * a0)) + 7)) 8))) = true := decide_eq_true c8
      clear c8
      simp only [Option.some.injEq, Prod.mk.injEq] at H
      obtain ⟨rfl, rfl⟩ := H
      go_wp2
      go_ret2
      exact ⟨by first | rfl | (simp; done) | (simp [*]; done), by repeat (first | exact Drawn0.refl _ | apply Drawn0.step)⟩
     ·rw [if_neg c8] at H
      have c8b0 : decide (1048576 < (wrap64 (Int.tdiv (wrap64 ((wrap64 (a1 * a0)) + 7)) 8))) = false := decide_eq_false c8
      clear c8
      simp only [Option.some.injEq, Prod.mk.injEq] at H
      obtain ⟨rfl, rfl⟩ := H
      go_wp2
      go_ret2
      exact ⟨by first | rfl | (simp; done) | (simp [*]; done), by repeat (first | exact Drawn0.refl _ | apply Drawn0.step)⟩
end Go.Proofs.Ytcklkngljapecaa.X
end

section
namespace Go.Proofs.Ytcklkngljapecaa.X
open Go.RowKit Go.Proofs.YtcklkngljapecaaW.PrintWords Go.Proofs.YtcklkngljapecaaW.PrintLast Go.Proofs.YtcklkngljapecaaW.PrintMore
def plainOp : Op → Bool
  | .move _ | .assign _ | .load _ _ | .store _ _ _ | .binOp _ _ _ _ _ | .unOp _ _ _ | .convert _ _ _ | .indexAddr _ _ _ | .fieldAddr _ _ _ => true
  | _ => false
theorem plain_run {P : Program} {o : Oper} (h : plainOp o.op = true) (ρ : Operand → Value) (w : World) :
    (∃ v w', (execOp ρ o).run P w = .ok (.value v) w') ∨ (∃ w', (execOp ρ o).run P w = .ok .skip w') ∨ ∃ e w', (execOp ρ o).run P w = .halt e w' := by
  have val : ∀ s : Sem Value, (∃ v w', (do pure (Next.value (← s)) : Sem Next).run P w = .ok (.value v) w') ∨ (∃ w', (do pure (Next.value (← s)) : Sem Next).run P w = .ok .skip w') ∨ ∃ e w', (do pure (Next.value (← s)) : Sem Next).run P w = .halt e w' := by
    intro s
    cases hs : s.run P w with
    | ok a w' => exact .inl ⟨a, w', by simp [go_sem, hs]⟩
    | halt e w' => exact .inr (.inr ⟨e, w', by simp [go_sem, hs]⟩)
  have unit : ∀ s : Sem Unit, (∃ v w', (do s; pure Next.skip : Sem Next).run P w = .ok (.value v) w') ∨ (∃ w', (do s; pure Next.skip : Sem Next).run P w = .ok .skip w') ∨ ∃ e w', (do s; pure Next.skip : Sem Next).run P w = .halt e w' := by
    intro s
    cases hs : s.run P w with
    | ok a w' => exact .inr (.inl ⟨w', by simp [go_sem, hs]⟩)
    | halt e w' => exact .inr (.inr ⟨e, w', by simp [go_sem, hs]⟩)
  unfold execOp
  cases ho : o.op <;> rw [ho] at h <;> simp [plainOp] at h <;> simp only <;> first | exact val _ | exact unit _ | exact .inl ⟨_, _, rfl⟩
theorem plain_about {P : Program} {o : Oper} (h : plainOp o.op = true) (ρ : Operand → Value) (w : World) : o.about P w ρ = none := by
  unfold Oper.about
  cases ho : o.op <;> rw [ho] at h <;> simp [plainOp] at h <;> rfl
theorem plain_semAt {o : Oper} (h : plainOp o.op = true) (ro : Option Nat) (ρ : Operand → Value) : o.semAt ro ρ = execOp ρ o :=
  Oper.semAt_eq ro ρ o (fun c hc => by rw [hc] at h; simp [plainOp] at h)
theorem plain_in {F : Fence} {n : Nat} {P : Program} {ops : Array Oper} {K : Act → World → Prop} {Q : Exit → Act → World → Prop} (hp : ∀ (i : Nat) (o : Oper), ops[i]? = some o → plainOp o.op = true) (hK : ∀ a w, K a w → Q .normal a w) :
    ∀ (L : List Nat) (a : Act) (w : World), wpOps P ops (fun e a w => e = .normal ∧ K a w) L a w → wpOpsIn F n P ops Q L a w
  | [], a, w, h => hK _ _ h.2
  | i :: L, a, w, h => by
    unfold wpOps at h
    unfold wpOpsIn
    cases ho : ops[i]? with
    | none => simp only [ho] at h ⊢; exact plain_in hp hK L a w h
    | some o =>
      have hpo := hp i o ho
      simp only [ho] at h ⊢
      by_cases hw : Region.wanted o (yielded ops a.tmps) = true
      · rw [if_pos hw] at h ⊢
        rcases h with h | ⟨_, _, _, h⟩
        · refine ⟨(fun f hf => by rw [plain_about hpo] at hf; cases hf), ?_⟩
          rw [plain_semAt hpo]
          unfold Oper.wp at h
          rcases plain_run (P := P) hpo a.eval w with ⟨v, w', e⟩ | ⟨w', e⟩ | ⟨x, w', e⟩
          · rw [e] at h ⊢; exact plain_in hp hK L _ _ h
          · rw [e] at h ⊢; exact plain_in hp hK L _ _ h
          · rw [e] at h ⊢
            cases x <;> first | exact absurd h.1 (by simp) | exact absurd h (by simp [Oper.upon])
        · exact absurd h.1 (by simp)
      · rw [if_neg hw] at h ⊢
        exact ⟨(fun f hf => by rw [plain_about hpo] at hf; cases hf), plain_in hp hK L _ _ h⟩
theorem region_tail_in {F : Fence} {m : Nat} {P : Program} {id : Nat} {Q : Exit → Act → World → Prop} {a : Act} {w : World} {l : List Oper} (n : Nat) (hm : P.follows .mixedOrders = true) (hB : Region.lexTailB .any l.toArray n = true) (hp : l.all (fun o => plainOp o.op) = true)
    (h : ∀ w3 : World, w3 = w.drew → wpStill P l.toArray w3 (fun a' => wpList P l.toArray (fun e a w => e = .normal ∧ Q .normal a w) (l.drop n) a' w3) (l.take n) a) : (Code.region id l.toArray true).wpIn F m P Q a w := by
  have h := h _ rfl
  simp only [Region.lexTailB, Bool.and_eq_true, decide_eq_true_eq] at hB
  obtain ⟨⟨⟨⟨hsel, hn⟩, hs⟩, hc⟩, hlex⟩ := hB
  have hn' : n < l.length := by simpa using hn
  have htl : (l.take n).length = n := by simp; omega
  have hdl : (l.drop n).length = l.toArray.size - n := by simp
  have inv0 : HeadInv .any l.toArray n (Array.replicate l.toArray.size false) :=
    ⟨by simp, fun j oj _ hl => (by rw [getD_replicate_false] at hl; cases hl), fun t _ ht => getD_in (by simpa using ht) (getD_replicate_false _ _)⟩
  have H := wpAnyL_lex (md := .any) (g := l.toArray.size - n) hsel hs hc hn (l.take n) 0 _ a (fun j hj => by
    have hj' : j < n := by rw [htl] at hj; exact hj
    simp [hj']) (by simpa using htl) inv0 (by rw [htl]; exact hlex) h
  have H2 := wpAny_of_head (Q' := fun e a w => e = .normal ∧ Q .normal a w) (g := l.toArray.size - n) (fun listed a' hL => by
    have := wpAny_of_seq (md := .any) (Q' := fun e a w => e = .normal ∧ Q .normal a w) (l.drop n) n listed a' w.drew (fun j => by simp [List.getElem?_drop]) (by rw [hdl]; exact hL.1) hL.2
    rwa [hdl] at this) _ _ _ H
  rw [htl, show n + (l.toArray.size - n) = l.toArray.size by omega] at H2
  refine wpIn_region_draw fun t => ?_
  simp only [Region.schedule, hm, Bool.true_or, if_true]
  refine plain_in (K := fun a w => Q .normal a w) (fun i o ho => ?_) (fun _ _ h => h) _ _ _ (wpAny_sound l.toArray.size t _ a _ H2)
  have : o ∈ l := by simpa using Array.mem_of_getElem? ho
  exact List.all_eq_true.1 hp o this
end Go.Proofs.Ytcklkngljapecaa.X
end

section
namespace Go.Proofs.Ytcklkngljapecaa.X
open Go.RowKit Go.Proofs.YtcklkngljapecaaW.PrintWords Go.Proofs.YtcklkngljapecaaW.PrintLast Go.Proofs.YtcklkngljapecaaW.PrintMore Go.Shelf
attribute [local go_sem] Oper.semAt_some
set_option linter.unusedVariables false
set_option linter.unusedSimpArgs false
def bitv (x : Int) (t : Nat) : Int := wrap64 (bits .and .u8 (x / 2 ^ t) 1)
def allB (xs : List Int) (m : Nat) : List Int := (List.range m).map fun j => bitv (xs.getD (j / 8) 0) (j % 8)
theorem allB_succ (xs : List Int) (m : Nat) : allB xs (m + 1) = allB xs m ++ [bitv (xs.getD (m / 8) 0) (m % 8)] := by simp [allB, List.range_succ]
theorem allB_length (xs : List Int) (m : Nat) : (allB xs m).length = m := by simp [allB]
set_option maxRecDepth 100000 in
set_option maxHeartbeats 2000000 in
theorem bits1_in (F : Fence) (n : Nat) (hF : F.fn 31) (hro : F.round = none) (hn : 1 ≤ n) (l Bs n₀ c : Nat) (A : Option Addr) (xs : List Int) (w0 : World) (hC : Kd.C (Kd.int .u8) w0 A xs.length xs) (hlen : xs.length ≤ 1000000000000) (h0w : w0.heap.size = n₀) (J Jx : List Int → World → Prop)
    (hY : ∀ pre x W, J pre W → pre.length < 8 * xs.length → YieldAt F (n - 1) Try.prog l #[.int .i64 x] W fun e W' =>
      (e = .returned (.bool true) ∧ J (pre ++ [x]) W' ∧ Below n₀ W W') ∨ (e = .returned (.bool false) ∧ Jx (pre ++ [x]) W'))
    (W : World) (hW : Below n₀ w0 W) (hBs : W.cell? ⟨Bs, 0, none⟩ = some (.slice A xs.length c)) (h0 : J [] W) :
    CallsIn F n Try.prog 31 #[.func (.yield l) #[] #[], .pointer (some ⟨Bs, 0, none⟩)] W fun e W' => (∃ v, e = .returned v) ∧
      ((∃ ys, ys = allB xs (8 * xs.length) ∧ J ys W') ∨ (∃ pre, (∃ m, m ≤ 8 * xs.length ∧ pre = allB xs m) ∧ Jx pre W')) := by
  refine callsIn_of_wp Try.func31 rfl hF ?_ hro
  simp only [Try.ntmps31, List.size_toArray, List.length_cons, List.length_nil, Nat.reduceAdd, Nat.reduceSub, Array.replicate_succ, Array.replicate_zero, List.push_toArray, List.append_toArray, List.nil_append, List.cons_append]
  have HC := Aside0.mk hC
  have HY := Aside0.mk hY
  have h0w := Aside0.mk h0w
  clear hC hY
  gi_wp2
  gi_loopw [8] (fun v8 wr => ∃ i : Nat, v8 = .int .i64 i ∧ i ≤ xs.length ∧ Aside0 (J (allB xs (8 * i)) wr) ∧ Aside0 (Below n₀ w0 wr)) (fun v8 _ => xs.length - (intOf v8).toNat)
  case atStart => exact ⟨0, rfl, Nat.zero_le _, ⟨h0⟩, ⟨hW⟩⟩
  case round =>
    obtain ⟨i, rfl, hi, HJ, HB⟩ := hrel
    by_cases hlt : i < xs.length
    · obtain ⟨ad, rfl, hcell⟩ := c_at (Kd.C_below HC.out (by have := HB.out; rw [← h0w.out] at this; exact this)) (i : Int) (by omega) (by omega)
      have e : rd xs (i : Int) = xs.getD i 0 := rfl
      rw [e, show ((i : Int)).toNat = i from rfl] at hcell
      obtain ⟨x, hx⟩ : ∃ x, x = xs.getD i 0 := ⟨_, rfl⟩
      rw [← hx] at hcell
      have Hx := Aside0.mk hx
      clear e hx
      gi_wp2
      obtain ⟨wo, rfl⟩ : ∃ wo : World, wo = wr := ⟨_, rfl⟩
      gi_loopw [12] (fun v12 wr => ∃ t : Nat, v12 = .int .i64 t ∧ t ≤ 8 ∧ Aside0 (J (allB xs (8 * i + t)) wr) ∧ Aside0 (Below n₀ w0 wr)) (fun v12 _ => 8 - (intOf v12).toNat)
      case atStart => exact ⟨0, rfl, by omega, by simpa using HJ, HB⟩
      case round =>
        clear HJ HB hcell
        obtain ⟨t, rfl, ht, HJ, HB⟩ := hrel
        by_cases hlt8 : t < 8
        · obtain ⟨fn, tmps, assign, body, hy, hR⟩ := HY.out _ (bitv x t) wr HJ.out (by rw [allB_length]; omega)
          have hJ1 := Aside0.mk (show allB xs (8 * i + t) ++ [bitv x t] = allB xs (8 * i + (t + 1)) by rw [← Nat.add_assoc, allB_succ, Hx.out, show (8 * i + t) / 8 = i by omega, show (8 * i + t) % 8 = t by omega])
          have hml := Aside0.mk (show 8 * i + (t + 1) ≤ 8 * xs.length by omega)
          simp only [bitv] at hy
          clear HJ
          gi_wp2
          refine hR.mono ?_
          rintro e W3 (⟨rfl, hJ3, hk3⟩ | ⟨rfl, hJx3⟩)
          · rw [hJ1.out] at hJ3
            have HJ3 := Aside0.mk hJ3
            have HB3 := Aside0.mk (HB.out.trans hk3)
            clear hJ3 hk3
            gi_wp2
            go_roundw
            case rel => exact ⟨t + 1, by go_num, by omega, HJ3, HB3⟩
            case measure => simp [intOf]; omega
          · rw [hJ1.out] at hJx3
            have HJ3 := Aside0.mk hJx3
            clear hJx3
            gi_wp2
            refine bodyPost_ret (results_none rfl _ _ _) rfl ?_
            exact ⟨⟨_, rfl⟩, .inr ⟨_, ⟨8 * i + (t + 1), hml.out, rfl⟩, HJ3.out⟩⟩
        · obtain rfl : t = 8 := by omega
          gi_wp2
          go_roundw
          case rel => exact ⟨i + 1, by go_num, by omega, by rw [show 8 * (i + 1) = 8 * i + 8 by omega]; exact HJ, HB⟩
          case measure => simp [intOf]; omega
    · obtain rfl : i = xs.length := by omega
      gi_wp2
      go_end0
      exact ⟨⟨_, rfl⟩, .inl ⟨_, rfl, HJ.out⟩⟩
set_option maxHeartbeats 1000000 in
theorem bits_in (A : Option Addr) (c : Nat) (xs : List Int) (w : World) :
    Calls Try.prog 19 #[.slice A xs.length c] w fun e w' => e = .returned (.func (.func 31) #[] #[.pointer (some ⟨w.heap.size, 0, none⟩)]) ∧ w' = w.alloc (.cells #[.slice A xs.length c] 22) := by
  go_enter Try.func19, Try.ntmps19
  go_wp2
  go_ret
  exact ⟨rfl, rfl⟩
theorem bits_stops (F : Fence) (n : Nat) (hF : F.fn 31) (hro : F.round = none) (hn : 1 ≤ n) (Bs n₀ c : Nat) (A : Option Addr) (xs : List Int) (w0 w : World) (hC : Kd.C (Kd.int .u8) w0 A xs.length xs) (hlen : xs.length ≤ 1000000000000) (h0w : w0.heap.size = n₀) (hb : Below n₀ w0 w) (hBs : Bs < w.heap.size)
    (hc : w.cell? ⟨Bs, 0, none⟩ = some (.slice A xs.length c)) :
    SeqStopsK F n Try.prog 31 #[.pointer (some ⟨Bs, 0, none⟩)] (fun x : Int => #[Value.int .i64 x]) (Below n₀) (fun ys => ys = allB xs (8 * xs.length)) (fun pre => ∃ m, m ≤ 8 * xs.length ∧ pre = allB xs m) (8 * xs.length) w := fun l J Jx W hW _ _ hY h0 =>
  bits1_in F n hF hro hn l Bs n₀ c A xs w0 hC hlen h0w J Jx hY W (hb.trans (hW.mono (by have := hb.size; omega))) ((hW.cell (p := ⟨Bs, 0, none⟩) hBs).trans hc) h0
end Go.Proofs.Ytcklkngljapecaa.X
end

section
namespace Go.Proofs.Ytcklkngljapecaa.X
open Go.RowKit Go.Proofs.YtcklkngljapecaaW.PrintWords Go.Proofs.YtcklkngljapecaaW.PrintLast Go.Proofs.YtcklkngljapecaaW.PrintMore
attribute [local go_sem] max2_int min2_int max_two min_two max_three min_three max_four min_four
set_option linter.unusedVariables false
set_option linter.unusedSimpArgs false
theorem size_drewN (w : World) (n : Nat) : (w.drewN n).heap.size = w.heap.size := rfl
theorem heap_alloc_at (w : World) (o : Obj) {g : Nat} (h : g = w.heap.size) : (w.alloc o).heap[g]? = some o := by subst h; exact blk_new w o
theorem named_in {F : Fence} {n : Nat} {P : Program} {Q : Exit → Act → World → Prop} {a : Act} {w : World} {c : Code} (h : ∀ W, W = w → c.wpIn F n P Q a W) : c.wpIn F n P Q a w := h _ rfl
def oneVar : TypeDesc → Bool
 | .struct _ | .array _ _ => false
 | _ => true
theorem run_loadVar_one {P : Program} {t : TypeId} {e : TypeDesc} {b : Addr} {x : Value} {w : World} (h1 : P.underlying t = some e) (h2 : oneVar e = true) (h3 : w.cell? b = some x) : (loadVar t b).run P w = .ok x w := by
 have hagg : (isAgg t).run P w = .ok false w := by
  unfold isAgg
  rw [Sem.run_bind, run_underlying h1 w]
  cases e <;> simp_all [oneVar]
 simp [loadVar, Sem.run_bind, hagg, go_sem, h3]
theorem wpList_named {P : Program} {ops : Array Oper} {Q : Exit → Act → World → Prop} {l : List Oper} {a : Act} {w : World} (h : ∀ Q', Aside0 (∀ a w, Q .normal a w → Q' .normal a w) → wpList P ops Q' l a w) : wpList P ops Q l a w := h Q ⟨fun _ _ h => h⟩
theorem results_v2 {P : Program} {fn : Func} {p p' : Tmp} {ty ty' : TypeId} (h : fn.results = #[.cell p ty, .cell p' ty']) {tmps : Array Value} {w : World} {a a' : Addr} {v v' : Value} (d d' : TypeDesc) (hu : P.underlying ty = some d) (hd : oneVar d = true) (hu' : P.underlying ty' = some d') (hd' : oneVar d' = true)
  (hp : tmps.getD p undef = .pointer (some a)) (hp' : tmps.getD p' undef = .pointer (some a')) (hv : w.cell? a = some v) (hv' : w.cell? a' = some v') : (results fn tmps).run P w = .ok (.tuple #[v, v']) w := by
 unfold results
 rw [h]
 simp only [List.mapM_toArray, Sem.run_bind, Sem.run_map, List.mapM_cons, List.mapM_nil, hp, hp', asAddr, Sem.run_pure, Result.andThen_ok, run_loadVar_one hu hd hv, run_loadVar_one hu' hd' hv']
 simp
theorem blk_own {W W' : World} {row : Option Nat} {B g t : Nat} {cs : Array Value} (h : W.heap[g]? = some (.cells cs t (0, 0))) (hg : W.grownBy W' row) (hr : ∀ r, row = some r → B ≤ r ∧ ∃ o : Obj, W.heap[r]? = some o ∧ o.isCells = false) : W'.heap[g]? = some (.cells cs t (0, 0)) := by
 refine blk_grown h hg fun e => ?_
 obtain ⟨_, o, ho, hc⟩ := hr g e.symm
 rw [h] at ho
 cases ho
 cases hc
theorem row_own {W W' : World} {row : Option Nat} {B : Nat} {base g e n cap : Nat} {xs : List Value} (h : W.ownsRow base e 1 (.slice (some ⟨g, 0, none⟩) n cap) n xs) (hg : W.grownBy W' row) (hr : ∀ r, row = some r → B ≤ r ∧ ∃ o : Obj, W.heap[r]? = some o ∧ o.isCells = false) : W'.ownsRow base e 1 (.slice (some ⟨g, 0, none⟩) n cap) n xs := by
 refine h.kept hg (.inr fun eq => ?_)
 obtain ⟨_, o, ho, hc⟩ := hr g eq.symm
 obtain ⟨cs, hcs⟩ := own_typed h g rfl
 rw [hcs] at ho
 cases ho
 cases hc
def ust (a1 : Int) (m : Nat) (s : List Int × Nat × Nat) (x : Int) : Option (List Int × Nat × Nat) :=
 if 0 < a1 ∧ s.2.1 < m then some (s.1.set s.2.1 (bits .or .u64 (rd s.1 (s.2.1 : Int)) (IntKind.u64.wrap (IntKind.u64.wrap x * 2 ^ s.2.2))), if (s.2.2 : Int) + 1 = a1 then (s.2.1 + 1, 0) else (s.2.1, s.2.2 + 1))
 else if x = 0 then some s else none
def urun (a1 : Int) (m : Nat) (ys : List Int) : Option (List Int × Nat × Nat) := ys.foldl (fun o x => o.bind fun s => ust a1 m s x) (some (List.replicate m 0, 0, 0))
theorem urun_snoc (a1 : Int) (m : Nat) (ys : List Int) (x : Int) : urun a1 m (ys ++ [x]) = (urun a1 m ys).bind fun s => ust a1 m s x := by simp [urun]
theorem urun_none (a1 : Int) (m : Nat) : ∀ (zs : List Int), zs.foldl (fun o x => o.bind fun s => ust a1 m s x) none = none
 | [] => rfl
 | z :: zs => urun_none a1 m zs
theorem urun_app (a1 : Int) (m : Nat) (ys zs : List Int) (h : urun a1 m ys = none) : urun a1 m (ys ++ zs) = none := by
 unfold urun at h ⊢
 rw [List.foldl_append, h, urun_none]
theorem allB_split {xs : List Int} {a b : Nat} (h : a ≤ b) : allB xs b = allB xs a ++ ((List.range (b - a)).map fun j => bitv (xs.getD ((a + j) / 8) 0) ((a + j) % 8)) := by
 obtain ⟨c, rfl⟩ : ∃ c, b = a + c := ⟨b - a, by omega⟩
 simp [allB, List.range_add, Function.comp_def]
def bits_Unpack.f (k : Nat) (l0 : List Int) (a1 a2 : Int) : Option (List Int × Int) :=
 (bits_Size.f k a1 a2).bind fun s => if s.2 = 0 then (if (l0.length : Int) < s.1 then some ([], 6) else if s.1 < (l0.length : Int) then some ([], 7) else
  if 0 ≤ a1 ∧ a1 ≤ 64 ∧ 0 ≤ a2 ∧ a2 ≤ 1048576 ∧ l0.length ≤ 1048576 then some (match urun a1 a2.toNat (allB l0 (8 * l0.length)) with | some r => (r.1, 0) | none => ([], 8)) else none) else some ([], s.2)
theorem bits_Unpack.mono : ∀ l0 a1 a2 k, LeO (bits_Unpack.f k l0 a1 a2) (bits_Unpack.f (k + 1) l0 a1 a2) := by
 intro l0 a1 a2 k
 unfold bits_Unpack.f
 exact LeO.bind (bits_Size.mono _ _ _) (fun _ => LeO.refl _)
def UnH (w : World) (a1 : Int) (m : Nat) (out : List Int) (k t : Nat) (W : World) : Prop :=
 W.heap[w.heap.size]? = some (.cells #[.int .i64 a1] 3 (0, 0)) ∧ W.heap[w.heap.size + 1]? = some (.cells #[.int .i64 m] 3 (0, 0)) ∧
  W.heap[w.heap.size + 2]? = some (.cells #[.slice none 0 0] 68 (0, 0)) ∧ W.heap[w.heap.size + 3]? = some (.cells #[.int .i64 0] 36 (0, 0)) ∧
  W.ownsRow w.heap.size 64 1 (.slice (some ⟨w.heap.size + 4, 0, none⟩) m m) m (nums .u64 out) ∧ W.heap[w.heap.size + 5]? = some (.cells #[.slice (some ⟨w.heap.size + 4, 0, none⟩) m m] 68 (0, 0)) ∧
  W.heap[w.heap.size + 6]? = some (.cells #[.int .i64 k] 3 (0, 0)) ∧ W.heap[w.heap.size + 7]? = some (.cells #[.int .i64 t] 3 (0, 0)) ∧ Below w.heap.size w W
theorem un_H {w : World} {a1 : Int} {m : Nat} {out : List Int} {k t : Nat} {W : World} (g0 : W.heap[w.heap.size]? = some (.cells #[.int .i64 a1] 3 (0, 0))) (g1 : W.heap[w.heap.size + 1]? = some (.cells #[.int .i64 m] 3 (0, 0)))
  (g2 : W.heap[w.heap.size + 2]? = some (.cells #[.slice none 0 0] 68 (0, 0))) (g3 : W.heap[w.heap.size + 3]? = some (.cells #[.int .i64 0] 36 (0, 0)))
  (g4 : W.ownsRow w.heap.size 64 1 (.slice (some ⟨w.heap.size + 4, 0, none⟩) m m) m (nums .u64 out)) (g5 : W.heap[w.heap.size + 5]? = some (.cells #[.slice (some ⟨w.heap.size + 4, 0, none⟩) m m] 68 (0, 0)))
  (g6 : W.heap[w.heap.size + 6]? = some (.cells #[.int .i64 k] 3 (0, 0))) (g7 : W.heap[w.heap.size + 7]? = some (.cells #[.int .i64 t] 3 (0, 0))) (hb : Below w.heap.size w W) : UnH w a1 m out k t W := ⟨g0, g1, g2, g3, g4, g5, g6, g7, hb⟩
theorem un_set7 {w : World} {a1 x : Int} {m : Nat} {out : List Int} {k t : Nat} {W : World} (t' : Nat) (h : UnH w a1 m out k t W) (hx : x = (t' : Int)) : UnH w a1 m out k t' (W.setCell ⟨w.heap.size + 1 + 1 + 1 + 1 + 1 + 1 + 1, 0, none⟩ (.int .i64 x)) := by
 subst hx
 obtain ⟨g0, g1, g2, g3, g4, g5, g6, g7, hb⟩ := h
 have d : ∀ {j : Nat}, j < w.heap.size + 7 → j ≠ (⟨w.heap.size + 1 + 1 + 1 + 1 + 1 + 1 + 1, 0, none⟩ : Addr).block := fun h e => by simp only [] at e; omega
 refine ⟨blk_far g0 (d (by omega)) _, blk_far g1 (d (by omega)) _, blk_far g2 (d (by omega)) _, blk_far g3 (d (by omega)) _, own_setCell g4 (fun e => ?_) _, blk_far g5 (d (by omega)) _, blk_far g6 (d (by omega)) _, ?_, hb.setCell (by simp only []; omega) _⟩
 ·injection e with e
  exact d (j := w.heap.size + 4) (by omega) e.symm
 ·exact blk_set g7 0 _
theorem un_set6 {w : World} {a1 x : Int} {m : Nat} {out : List Int} {k t : Nat} {W : World} (k' : Nat) (h : UnH w a1 m out k t W) (hx : x = (k' : Int)) : UnH w a1 m out k' t (W.setCell ⟨w.heap.size + 1 + 1 + 1 + 1 + 1 + 1, 0, none⟩ (.int .i64 x)) := by
 subst hx
 obtain ⟨g0, g1, g2, g3, g4, g5, g6, g7, hb⟩ := h
 have d : ∀ {j : Nat}, j ≠ w.heap.size + 6 → j ≠ (⟨w.heap.size + 1 + 1 + 1 + 1 + 1 + 1, 0, none⟩ : Addr).block := fun h e => by simp only [] at e; omega
 refine ⟨blk_far g0 (d (by omega)) _, blk_far g1 (d (by omega)) _, blk_far g2 (d (by omega)) _, blk_far g3 (d (by omega)) _, own_setCell g4 (fun e => ?_) _, blk_far g5 (d (by omega)) _, ?_, blk_far g7 (d (by omega)) _, hb.setCell (by simp only []; omega) _⟩
 ·injection e with e
  exact d (j := w.heap.size + 4) (by omega) e.symm
 ·exact blk_set g6 0 _
def UnI (w : World) (a1 : Int) (m : Nat) (pre : List Int) (W : World) : Prop :=
 ∃ (out : List Int) (k t : Nat), urun a1 m pre = some (out, k, t) ∧ out.length = m ∧ k ≤ m ∧ (0 < a1 → (t : Int) < a1) ∧ t ≤ 64 ∧
  UnH w a1 m out k t W
def UnX (w : World) (a1 : Int) (m : Nat) (c : Code) (pre : List Int) (W : World) : Prop :=
 c = .ret ∧ urun a1 m pre = none ∧ W.heap[w.heap.size + 2]? = some (.cells #[.slice none 0 0] 68 (0, 0)) ∧ W.heap[w.heap.size + 3]? = some (.cells #[.int .i64 8] 36 (0, 0)) ∧ Below w.heap.size w W
theorem UnI_own (w : World) (a1 : Int) (m B : Nat) (hB : w.heap.size ≤ B) : OwnFrom B (UnI w a1 m) := by
 rintro pre W W' row ⟨out, k, t, h1, h2, h3, h4, h5, g0, g1, g2, g3, g4, g5, g6, g7, hb⟩ hg hr
 exact ⟨out, k, t, h1, h2, h3, h4, h5, blk_own g0 hg hr, blk_own g1 hg hr, blk_own g2 hg hr, blk_own g3 hg hr, row_own g4 hg hr, blk_own g5 hg hr, blk_own g6 hg hr, blk_own g7 hg hr, hb.grown hg hb.size (fun r e => Nat.le_trans hB (hr r e).1)⟩
theorem UnX_own (w : World) (a1 : Int) (m B : Nat) (hB : w.heap.size ≤ B) (c : Code) : OwnFrom B (UnX w a1 m c) := by
 rintro pre W W' row ⟨h1, h2, g2, g3, hb⟩ hg hr
 exact ⟨h1, h2, blk_own g2 hg hr, blk_own g3 hg hr, hb.grown hg hb.size (fun r e => Nat.le_trans hB (hr r e).1)⟩
theorem un_left {w W : World} {a1 : Int} {m B : Nat} {ys : List Int} (g2 : W.heap[w.heap.size + 2]? = some (.cells #[.slice none 0 0] 68 (0, 0))) (g3 : W.heap[w.heap.size + 3]? = some (.cells #[.int .i64 0] 36 (0, 0))) (hb : Below w.heap.size w W) (hn : urun a1 m ys = none) :
  KeepsFrom B W ((W.setCell ⟨w.heap.size + 1 + 1, 0, none⟩ (.slice none 0 0)).setCell ⟨w.heap.size + 1 + 1 + 1, 0, none⟩ (.int .i64 8)) ∧ UnX w a1 m .ret ys ((W.setCell ⟨w.heap.size + 1 + 1, 0, none⟩ (.slice none 0 0)).setCell ⟨w.heap.size + 1 + 1 + 1, 0, none⟩ (.int .i64 8)) := by
 refine ⟨((KeepsOthers.setCell _ _ _).trans (KeepsOthers.setCell _ _ _)).from _, rfl, hn, ?_, ?_, (hb.setCell (by simp only []; omega) _).setCell (by simp only []; omega) _⟩
 ·exact blk_far (blk_set g2 0 _) (by simp only []; omega) _
 ·exact blk_set (blk_far g3 (by simp only []; omega) _) 0 _
theorem un_end {w W : World} {m D : Nat} {out : List Int} (h2 : out.length = m) (hD : w.heap.size ≤ D) (g2 : W.heap[w.heap.size + 2]? = some (.cells #[.slice none 0 0] 68 (0, 0))) (g3 : W.heap[w.heap.size + 3]? = some (.cells #[.int .i64 0] 36 (0, 0)))
  (g4 : W.ownsRow w.heap.size 64 1 (.slice (some ⟨w.heap.size + 4, 0, none⟩) m m) m (nums .u64 out)) (hb : Below w.heap.size w W) (hK : W.heap[D]? = some (.deferred (some []))) (W5 : World)
  (h5 : W5 = (W.setCell ⟨w.heap.size + 1 + 1, 0, none⟩ (.slice (some ⟨w.heap.size + 4, 0, none⟩) m m)).setCell ⟨w.heap.size + 1 + 1 + 1, 0, none⟩ (.int .i64 0)) :
  W5.heap[D]? = some (.deferred (some [])) ∧ (W5.putObj D (.deferred none)).cell? ⟨w.heap.size + 1 + 1, 0, none⟩ = some (.slice (some ⟨w.heap.size + 4, 0, none⟩) m m) ∧ (W5.putObj D (.deferred none)).cell? ⟨w.heap.size + 1 + 1 + 1, 0, none⟩ = some (.int .i64 0) ∧
   Kd.R (Kd.int .u64) 64 (W5.putObj D (.deferred none)) w.heap.size (fun _ => True) (.slice (some ⟨w.heap.size + 4, 0, none⟩) m m) out ∧ Below w.heap.size w (W5.putObj D (.deferred none)) := by
 have hK' : W5.heap[D]? = some (.deferred (some [])) := by rw [h5]; exact ((KeepsOthers.setCell _ _ _).trans (KeepsOthers.setCell _ _ _)).same D _ hK rfl
 have a2 : W5.heap[w.heap.size + 2]? = some (.cells #[.slice (some ⟨w.heap.size + 4, 0, none⟩) m m] 68 (0, 0)) := by rw [h5]; exact blk_far (blk_set g2 0 _) (by simp only []; omega) _
 have a3 : W5.heap[w.heap.size + 3]? = some (.cells #[.int .i64 0] 36 (0, 0)) := by rw [h5]; exact blk_set (blk_far g3 (by simp only []; omega) _) 0 _
 have a4 : W5.ownsRow w.heap.size 64 1 (.slice (some ⟨w.heap.size + 4, 0, none⟩) m m) m (nums .u64 out) := by
  rw [h5]
  refine own_setCell (own_setCell g4 (fun e => ?_) _) (fun e => ?_) _ <;> (injection e with e; simp only [] at e; omega)
 have a5 : Below w.heap.size w W5 := by rw [h5]; exact (hb.setCell (by simp only []; omega) _).setCell (by simp only []; omega) _
 clear h5 g2 g3 g4 hb hK
 refine ⟨hK', cell_kept (blk_cell a2 0) (grownBy_putObj' _ D (.deferred none)) (fun r e => by cases e; exact ⟨_, hK', rfl⟩), cell_kept (blk_cell a3 0) (grownBy_putObj' _ D (.deferred none)) (fun r e => by cases e; exact ⟨_, hK', rfl⟩), ?_, a5.trans (belowK_b (w := w) (Nat.le_refl _) _ D _ _ hD hK' rfl rfl)⟩
 subst h2
 exact Kd.R_of_own (enc := Value.int .u64) (h1 := fun _ => rfl) (ownsRow_putObj a4 _ hK' rfl) (fun _ _ => trivial)
theorem un_halt {w W : World} {D : Nat} (hD : w.heap.size ≤ D) (g2 : W.heap[w.heap.size + 2]? = some (.cells #[.slice none 0 0] 68 (0, 0))) (g3 : W.heap[w.heap.size + 3]? = some (.cells #[.int .i64 8] 36 (0, 0)))
  (hb : Below w.heap.size w W) (hK : W.heap[D]? = some (.deferred (some []))) :
  (W.putObj D (.deferred none)).cell? ⟨w.heap.size + 1 + 1, 0, none⟩ = some (.slice none 0 0) ∧ (W.putObj D (.deferred none)).cell? ⟨w.heap.size + 1 + 1 + 1, 0, none⟩ = some (.int .i64 8) ∧ Below w.heap.size w (W.putObj D (.deferred none)) :=
 ⟨cell_kept (blk_cell g2 0) (grownBy_putObj' _ D (.deferred none)) (fun r e => by cases e; exact ⟨_, hK, rfl⟩), cell_kept (blk_cell g3 0) (grownBy_putObj' _ D (.deferred none)) (fun r e => by cases e; exact ⟨_, hK, rfl⟩), hb.trans (belowK_b (w := w) (Nat.le_refl _) _ D _ _ hD hK rfl rfl)⟩
section
attribute [local go_sem] Oper.semAt_some
set_option maxRecDepth 100000 in
set_option maxHeartbeats 4000000 in
theorem un_main (k : Nat) (A0 : Option Addr) (c0 : Nat) (l0 : List Int) (a1 a2 s1 : Int) (w : World) (hr0 : Kd.C (Kd.int .u8) w A0 l0.length l0) (hc0 : l0.length ≤ c0) (hs : bits_Size.f k a1 a2 = some (s1, 0)) (h1 : ¬ (l0.length : Int) < s1) (h2 : ¬ s1 < (l0.length : Int)) (hw0 : 0 ≤ a1) (hw1 : a1 ≤ 64) (hn0 : 0 ≤ a2) (hn1 : a2 ≤ 1048576) (hl : l0.length ≤ 1048576) (r1 : List Int) (r2 : Int)
  (h : (match urun a1 a2.toNat (allB l0 (8 * l0.length)) with | some r => (r.1, 0) | none => ([], 8)) = (r1, r2)) (n : Nat) (hn : 4 ≤ n) :
  CallsIn Fence.wide n Try.prog 35 #[.slice A0 l0.length c0, .int .i64 a1, .int .i64 a2] w fun e w' => ∃ v0_ : Value, e = .returned (.tuple #[v0_, .int .i64 r2]) ∧ Kd.R (Kd.int .u64) 64 w' w.heap.size (fun _ => True) v0_ r1 ∧ Below w.heap.size w w' := by
 have hro : Fence.wide.round = none := rfl
 have HR0 := Aside0.mk hr0
 have Hs := Aside0.mk hs
 have h1n : 1 ≤ n := by omega
 have hn2 := Aside0.mk (show 1 ≤ n - 1 by omega)
 clear hr0 hs
 have h1b := decide_eq_false h1
 have h2b := decide_eq_false h2
 clear h1 h2
 obtain ⟨m, rfl⟩ := Int.eq_ofNat_of_zero_le hn0
 rw [show ((m : Int)).toNat = m from rfl] at h
 have H := Aside0.mk h
 clear h
 have hmk := print_make_int (P := Try.prog) 68 64 (.int .u64 0) 8 (by kernel_rfl) (by kernel_rfl) rfl (by decide) (m : Int) hn0 (by omega)
 rw [show ((m : Int)).toNat = m from rfl] at hmk
 refine callsIn_of_wp_marks Try.func35 rfl trivial ?_ hro
 simp only [Try.ntmps35, List.size_toArray, List.length_cons, List.length_nil, Nat.reduceAdd, Nat.reduceSub, Array.replicate_succ, Array.replicate_zero, List.push_toArray, List.append_toArray, List.nil_append, List.cons_append]
 gi_wp2_with (refine ⟨trivial, ?_⟩; first | (gi_at_call 39; refine (callsIn_wide.2 (bits_Size.calls k a1 m s1 0 _ Hs.out)).mono ?_; rintro e w' ⟨rfl, ⟨nd, rfl⟩⟩) | (gi_at_call 19; refine (callsIn_wide.2 (bits_in A0 c0 l0 _)).mono ?_; rintro e w' ⟨rfl, rfl⟩))
 clear hmk
 refine named_in fun W0 hW0 => ?_
 have f0 : W0.heap[w.heap.size]? = some (.cells #[.int .i64 a1] 3 (0,0)) := by rw [hW0]; repeat (first | (refine heap_alloc_at _ _ ?_; ((try simp only [World.size_alloc, World.size_setCell, size_drewN]) <;> omega)) | (refine blk_alloc ?_ _) | (refine blk_drewN ?_ _))
 have f1 : W0.heap[w.heap.size + 1]? = some (.cells #[.int .i64 m] 3 (0,0)) := by rw [hW0]; repeat (first | (refine heap_alloc_at _ _ ?_; ((try simp only [World.size_alloc, World.size_setCell, size_drewN]) <;> omega)) | (refine blk_alloc ?_ _) | (refine blk_drewN ?_ _))
 have f2 : W0.heap[w.heap.size + 2]? = some (.cells #[.slice none 0 0] 68 (0,0)) := by rw [hW0]; repeat (first | (refine heap_alloc_at _ _ ?_; ((try simp only [World.size_alloc, World.size_setCell, size_drewN]) <;> omega)) | (refine blk_alloc ?_ _) | (refine blk_drewN ?_ _))
 have f3 : W0.heap[w.heap.size + 3]? = some (.cells #[.int .i64 0] 36 (0,0)) := by rw [hW0]; repeat (first | (refine heap_alloc_at _ _ ?_; ((try simp only [World.size_alloc, World.size_setCell, size_drewN]) <;> omega)) | (refine blk_alloc ?_ _) | (refine blk_drewN ?_ _))
 have f4 : W0.heap[w.heap.size + 4]? = some (.cells (madeCells #[Value.int IntKind.u64 0] m) 64 (0,0)) := by rw [hW0]; repeat (first | (refine heap_alloc_at _ _ ?_; ((try simp only [World.size_alloc, World.size_setCell, size_drewN]) <;> omega)) | (refine blk_alloc ?_ _) | (refine blk_drewN ?_ _))
 have f5 : W0.heap[w.heap.size + 5]? = some (.cells #[.slice (some ⟨w.heap.size + 4, 0, none⟩) m m] 68 (0,0)) := by rw [hW0]; repeat (first | (refine heap_alloc_at _ _ ?_; ((try simp only [World.size_alloc, World.size_setCell, size_drewN]) <;> omega)) | (refine blk_alloc ?_ _) | (refine blk_drewN ?_ _))
 have f6 : W0.heap[w.heap.size + 6]? = some (.cells #[.int .i64 0] 3 (0,0)) := by rw [hW0]; repeat (first | (refine heap_alloc_at _ _ ?_; ((try simp only [World.size_alloc, World.size_setCell, size_drewN]) <;> omega)) | (refine blk_alloc ?_ _) | (refine blk_drewN ?_ _))
 have f7 : W0.heap[w.heap.size + 7]? = some (.cells #[.int .i64 0] 3 (0,0)) := by rw [hW0]; repeat (first | (refine heap_alloc_at _ _ ?_; ((try simp only [World.size_alloc, World.size_setCell, size_drewN]) <;> omega)) | (refine blk_alloc ?_ _) | (refine blk_drewN ?_ _))
 have f8 : W0.heap[w.heap.size + 8]? = some (.cells #[.slice A0 l0.length c0] 22 (0,0)) := by rw [hW0]; repeat (first | (refine heap_alloc_at _ _ ?_; ((try simp only [World.size_alloc, World.size_setCell, size_drewN]) <;> omega)) | (refine blk_alloc ?_ _) | (refine blk_drewN ?_ _))
 have hb : Below w.heap.size w W0 := by rw [hW0]; repeat (first | exact Below.refl _ _ | (refine below_alloc ?_ _) | (refine pw_below_drewN ?_ _))
 have hsz : W0.heap.size = w.heap.size + 9 := by rw [hW0]; simp only [World.size_alloc, size_drewN]
 have frow : W0.ownsRow w.heap.size 64 1 (.slice (some ⟨w.heap.size + 4, 0, none⟩) m m) m (nums .u64 (List.replicate m 0)) := by
  have ho := own_made w w.heap.size 64 .u64 m (Nat.le_refl _) (by omega)
  refine ⟨ho.1, .inr ⟨w.heap.size + 4, m, _, rfl, by omega, f4, Nat.le_refl _, by simp [maxLen]; omega, by simp [size_madeCells], ?_⟩⟩
  rw [Nat.mul_one, List.take_of_length_le (by simp [size_madeCells])]
  apply List.ext_getElem
  ·simp [nums, madeCells]
  ·intro i h1 h2
   simp [nums, madeCells, Nat.mod_one]
 have FI := Aside0.mk (show UnI w a1 m [] W0 from ⟨List.replicate m 0, 0, 0, rfl, by simp, Nat.zero_le _, fun h => h, by omega, f0, f1, f2, f3, frow, f5, f6, f7, hb⟩)
 have HB := Aside0.mk hb
 have F8 := Aside0.mk (show W0.cell? ⟨w.heap.size + 8, 0, none⟩ = some (.slice A0 l0.length c0) from blk_cell f8 0)
 clear hW0 f0 f1 f2 f3 f4 f5 f6 f7 f8 hb frow
 refine wpIn_rangeFunc_ownG hro h1n (gf := 31) (lb := #[.pointer (some ⟨w.heap.size + 8, 0, none⟩)]) rfl trivial (enters_of Try.func31 (by kernel_rfl) rfl)
  (bits_stops Fence.wide (n - 1) trivial hro hn2.out (w.heap.size + 8) w.heap.size c0 A0 l0 w W0 HR0.out (by omega) rfl HB.out (by omega) F8.out) belowK_t (belowK_b (by omega)) (Below.refl _ _) (fun _ => rfl)
  (UnI w a1 m) (UnX w a1 m) (UnI_own w a1 m _ (by omega)) (UnX_own w a1 m _ (by omega)) FI.out ?a1 ?assign ?body ?done ?stop
 case assign =>
  intro l x W K hK
  gi_wp2
  exact hK
 case body =>
  rintro l pre x W ⟨out, k, t, h1, h2, h3, h4, h5, g0, g1, g2, g3, g4, g5, g6, g7, hb⟩ hlen
  clear F8 FI HB H HR0 Hs
  have c0 := blk_cell g0 0
  have c1 := blk_cell g1 0
  have c6 := blk_cell g6 0
  have c7 := blk_cell g7 0
  have F6 := blk_frozen g6 0
  have F7 := blk_frozen g7 0
  have hsn := urun_snoc a1 m pre x
  rw [h1, Option.bind_some] at hsn
  simp only [ust] at hsn
  by_cases hp : 0 < a1
  ·have hpb := decide_eq_true hp
   by_cases hk : k < m
   ·rw [if_pos ⟨hp, hk⟩] at hsn
    have hkb := decide_eq_true (show (k : Int) < (m : Int) by omega)
    gi_wp2
    rename_i K1 hK1
    have cr := (own_at g4 (k : Int) (by omega) (by omega)).1
    have fr := (own_at g4 (k : Int) (by omega) (by omega)).2
    rw [show ((k : Int)).toNat = k from rfl] at cr fr
    have c5 := blk_cell g5 0
    obtain ⟨y, hy⟩ : ∃ y, y = rd out (k : Int) := ⟨_, rfl⟩
    rw [← hy] at cr hsn
    clear hy
    refine region_tail_in 10 (by kernel_rfl) (by kernel_rfl) (by kernel_rfl) (fun w3 hw3 => ?_)
    simp only [List.take_succ_cons, List.take_zero, List.drop_succ_cons, List.drop_zero]
    have d5 : w3.cell? ⟨w.heap.size + 1 + 1 + 1 + 1 + 1, 0, none⟩ = some (.slice (some ⟨w.heap.size + 4, 0, none⟩) m m) := by rw [hw3]; exact c5
    have d6 : w3.cell? ⟨w.heap.size + 1 + 1 + 1 + 1 + 1 + 1, 0, none⟩ = some (.int .i64 k) := by rw [hw3]; exact c6
    have d7 : w3.cell? ⟨w.heap.size + 1 + 1 + 1 + 1 + 1 + 1 + 1, 0, none⟩ = some (.int .i64 t) := by rw [hw3]; exact c7
    have dr : w3.cell? ⟨w.heap.size + 4, k, none⟩ = some (.int .u64 y) := by rw [hw3]; exact cr
    have dfr : w3.frozen? ⟨w.heap.size + 4, k, none⟩ = false := by rw [hw3]; exact fr
    have e1 : 0 ≤ (k : Int) := by omega
    have e2 : (k : Int) < m := by omega
    have e3 : ((k : Int)).toNat = k := rfl
    have e4 : ((t : Int)).toNat = t := rfl
    have e5 : 0 ≤ (t : Int) := by omega
    repeat still_step
    refine wpStill_nil ?_
    clear e1 e2 e3 e4 e5 d5 d6 d7 dr
    refine wpList_named fun Q' hQ' => ?_
    go_wp2
    refine hQ'.out _ _ ⟨trivial, ?_⟩
    clear hQ' Q'
    obtain ⟨z, hz⟩ : ∃ z, z = bits .or .u64 y (IntKind.u64.wrap (IntKind.u64.wrap x * 2 ^ t)) := ⟨_, rfl⟩
    rw [← hz] at hsn ⊢
    simp only [Exit.then]
    refine hK1 _ _ ?_
    refine named_in fun W4 hW4 => ?_
    clear dfr c0 c1 c5 c6 c7 F6 F7 fr cr
    have go := own_store (k := .u64) g4 (k : Int) z
    rw [show ((k : Int)).toNat = k from rfl] at go
    have q : ∀ {j : Nat} {t : Nat} {cs : Array Value}, W.heap[j]? = some (.cells cs t (0, 0)) → j ≠ w.heap.size + 4 → W4.heap[j]? = some (.cells cs t (0, 0)) := fun {j t cs} hj hne => by rw [hW4]; exact blk_drew (blk_far hj (by simpa using hne) _)
    have hb4 : Below w.heap.size w W4 := by rw [hW4]; exact below_drew1 (hb.setCell (p := ⟨w.heap.size + 4, k, none⟩) (by simp) _)
    have hb4' : Below w.heap.size W W4 := by rw [hW4]; exact below_drew1 ((Below.refl _ W).setCell (p := ⟨w.heap.size + 4, k, none⟩) (by simp) _)
    have hk4 : KeepsOthers W W4 := by rw [hW4]; exact (KeepsOthers.setCell _ _ _).trans (KeepsOthers.drew _)
    have g4' : W4.ownsRow w.heap.size 64 1 (.slice (some ⟨w.heap.size + 4, 0, none⟩) m m) m (nums .u64 (out.set k z)) := by rw [hW4]; exact go.1.drew
    replace g0 := q g0 (by omega)
    replace g1 := q g1 (by omega)
    replace g2 := q g2 (by omega)
    replace g3 := q g3 (by omega)
    replace g5 := q g5 (by omega)
    replace g6 := q g6 (by omega)
    replace g7 := q g7 (by omega)
    clear q hW4 hw3 g4 go hz
    have c0 := blk_cell g0 0
    have c6 := blk_cell g6 0
    have c7 := blk_cell g7 0
    have F6 := blk_frozen g6 0
    have F7 := blk_frozen g7 0
    have ht := h4 hp
    clear h1 h4
    by_cases he : (t : Int) + 1 = a1
    ·rw [if_pos he] at hsn
     have heb : ((t : Int) + 1 == a1) = true := by simpa using he
     gi_wp2
     have HU := un_set7 (x := 0) 0 (un_set6 (x := (k : Int) + 1) (k + 1) (un_set7 (x := a1) (t + 1) (un_H g0 g1 g2 g3 g4' g5 g6 g7 hb4) (by omega)) (by omega)) (by omega)
     refine ⟨?_, ?_, _, _, _, hsn, by simp [h2], by omega, fun _ => by simpa using hp, by omega, HU⟩
     ·exact (hk4.trans ((KeepsOthers.setCell _ _ _).trans ((KeepsOthers.setCell _ _ _).trans (KeepsOthers.setCell _ _ _)))).from _
     ·exact hb4'.trans ((((Below.refl _ _).setCell (by simp; omega) _).setCell (by simp; omega) _).setCell (by simp; omega) _)
    ·rw [if_neg he] at hsn
     have heb : ((t : Int) + 1 == a1) = false := by simpa using he
     gi_wp2
     have HU := un_set7 (x := (t : Int) + 1) (t + 1) (un_H g0 g1 g2 g3 g4' g5 g6 g7 hb4) (by omega)
     refine ⟨?_, ?_, _, _, _, hsn, by simp [h2], by omega, fun _ => by omega, by omega, HU⟩
     ·exact (hk4.trans (KeepsOthers.setCell _ _ _)).from _
     ·exact hb4'.trans ((Below.refl _ _).setCell (by simp; omega) _)
   ·have hkb := decide_eq_false (show ¬ (k : Int) < (m : Int) by omega)
    rw [if_neg (fun h => hk h.2)] at hsn
    by_cases hx : x = 0
    ·rw [if_pos hx] at hsn
     have hxb : (x != 0) = false := by simpa using hx
     clear hx
     gi_wp2
     exact ⟨(KeepsOthers.refl W).from _, Below.refl _ W, _, _, _, hsn, h2, h3, h4, h5, un_H g0 g1 g2 g3 g4 g5 g6 g7 hb⟩
    ·rw [if_neg hx] at hsn
     have hxb : (x != 0) = true := by simpa using hx
     clear hx
     have F2 := blk_frozen g2 0
     have F3 := blk_frozen g3 0
     have c2 := blk_cell g2 0
     have c3 := blk_cell g3 0
     gi_wp2
     exact un_left g2 g3 hb hsn
  ·have hpb := decide_eq_false hp
   rw [if_neg (fun h => hp h.1)] at hsn
   by_cases hx : x = 0
   ·rw [if_pos hx] at hsn
    have hxb : (x != 0) = false := by simpa using hx
    clear hx
    gi_wp2
    exact ⟨(KeepsOthers.refl W).from _, Below.refl _ W, _, _, _, hsn, h2, h3, h4, h5, un_H g0 g1 g2 g3 g4 g5 g6 g7 hb⟩
   ·rw [if_neg hx] at hsn
    have hxb : (x != 0) = true := by simpa using hx
    clear hx
    have F2 := blk_frozen g2 0
    have F3 := blk_frozen g3 0
    have c2 := blk_cell g2 0
    have c3 := blk_cell g3 0
    gi_wp2
    exact un_left g2 g3 hb hsn
 case done =>
  rintro D ys W hD rfl ⟨out, k, t, h1, h2, h3, h4, h5, g0, g1, g2, g3, g4, g5, g6, g7, hb⟩ hK
  rw [h1] at H
  obtain ⟨rfl, rfl⟩ : out = r1 ∧ 0 = r2 := by simpa using H.out
  clear H h1 FI F8
  have c5 := blk_cell g5 0
  have F2 := blk_frozen g2 0
  have F3 := blk_frozen g3 0
  have c2 := blk_cell g2 0
  have c3 := blk_cell g3 0
  gi_wp2
  obtain ⟨hK', q2, q3, q4, q5⟩ := un_end h2 (by omega) g2 g3 g4 hb hK _ rfl
  refine ⟨by simp, .inl ⟨_, _, rfl, run_takeDeferred hK', ?_⟩⟩
  exact ⟨_, results_v2 rfl (.slice 64) (.int .i64) (by kernel_rfl) rfl (by kernel_rfl) rfl rfl rfl q2 q3, _, rfl, q4, q5⟩
 case stop =>
  rintro D c pre W hD ⟨mm, hmm, rfl⟩ ⟨rfl, h2, g2, g3, hb⟩ hK
  obtain ⟨q2, q3, q5⟩ := un_halt (by omega) g2 g3 hb hK
  rw [allB_split hmm, urun_app _ _ _ _ h2] at H
  obtain ⟨rfl, rfl⟩ : [] = r1 ∧ 8 = r2 := by simpa using H.out
  clear H FI F8
  gi_wp2
  refine ⟨by simp, .inl ⟨_, _, rfl, run_takeDeferred hK, ?_⟩⟩
  exact ⟨_, results_v2 rfl (.slice 64) (.int .i64) (by kernel_rfl) rfl (by kernel_rfl) rfl rfl rfl q2 q3, _, rfl, Kd.R_nil _ _ _ _ _, q5⟩
end
theorem un_badw (w : World) (a1 a2 r : Int) (nd : Nat) (W5 : World) (h5 : W5 = ((((((w.alloc (.cells #[.int .i64 a1] 3)).alloc (.cells #[.int .i64 a2] 3)).alloc (.cells #[.slice none 0 0] 68)).alloc (.cells #[.int .i64 0] 36)).drewN nd).setCell ⟨w.heap.size + 1 + 1, 0, none⟩ (.slice none 0 0)).setCell ⟨w.heap.size + 1 + 1 + 1, 0, none⟩ (.int .i64 r)) :
  W5.cell? ⟨w.heap.size + 1 + 1, 0, none⟩ = some (.slice none 0 0) ∧ W5.cell? ⟨w.heap.size + 1 + 1 + 1, 0, none⟩ = some (.int .i64 r) ∧ Below w.heap.size w W5 := by
 obtain ⟨W, hW⟩ : ∃ W, W = ((((w.alloc (.cells #[.int .i64 a1] 3)).alloc (.cells #[.int .i64 a2] 3)).alloc (.cells #[.slice none 0 0] 68)).alloc (.cells #[.int .i64 0] 36)).drewN nd := ⟨_, rfl⟩
 rw [← hW] at h5
 have g2 : W.heap[w.heap.size + 2]? = some (.cells #[.slice none 0 0] 68 (0,0)) := by rw [hW]; repeat (first | (refine heap_alloc_at _ _ ?_; ((try simp only [World.size_alloc, World.size_setCell, size_drewN]) <;> omega)) | (refine blk_alloc ?_ _) | (refine blk_drewN ?_ _))
 have g3 : W.heap[w.heap.size + 3]? = some (.cells #[.int .i64 0] 36 (0,0)) := by rw [hW]; repeat (first | (refine heap_alloc_at _ _ ?_; ((try simp only [World.size_alloc, World.size_setCell, size_drewN]) <;> omega)) | (refine blk_alloc ?_ _) | (refine blk_drewN ?_ _))
 have hb : Below w.heap.size w W := by rw [hW]; repeat (first | exact Below.refl _ _ | (refine below_alloc ?_ _) | (refine pw_below_drewN ?_ _))
 have a2 : W5.heap[w.heap.size + 2]? = some (.cells #[.slice none 0 0] 68 (0, 0)) := by rw [h5]; exact blk_far (blk_set g2 0 _) (by simp only []; omega) _
 have a3 : W5.heap[w.heap.size + 3]? = some (.cells #[.int .i64 r] 36 (0, 0)) := by rw [h5]; exact blk_set (blk_far g3 (by simp only []; omega) _) 0 _
 exact ⟨blk_cell a2 0, blk_cell a3 0, by rw [h5]; exact (hb.setCell (by simp only []; omega) _).setCell (by simp only []; omega) _⟩
set_option maxHeartbeats 1000000 in
theorem un_bad (k : Nat) (A0 : Option Addr) (c0 : Nat) (l0 : List Int) (a1 a2 s1 s2 : Int) (w : World) (hs : bits_Size.f k a1 a2 = some (s1, s2)) (r2 : Int) (hl : l0.length ≤ 9223372036854775807)
  (h : (s2 ≠ 0 ∧ r2 = s2) ∨ (s2 = 0 ∧ (l0.length : Int) < s1 ∧ r2 = 6) ∨ (s2 = 0 ∧ ¬ (l0.length : Int) < s1 ∧ s1 < (l0.length : Int) ∧ r2 = 7)) :
  Calls Try.prog 35 #[.slice A0 l0.length c0, .int .i64 a1, .int .i64 a2] w fun e w' => e = .returned (.tuple #[.slice none 0 0, .int .i64 r2]) ∧ Below w.heap.size w w' := by
 have Hs := Aside0.mk hs
 clear hs
 rcases h with ⟨h1, rfl⟩ | ⟨rfl, h2, rfl⟩ | ⟨rfl, h2, h3, rfl⟩
 ·have hb : (r2 != 0) = true := by simpa using h1
  clear h1
  go_enter Try.func35, Try.ntmps35
  go_wp2_with (go_at_call 39; refine (bits_Size.calls k a1 a2 s1 r2 _ Hs.out).mono ?_; rintro e w' ⟨rfl, ⟨nd, rfl⟩⟩)
  obtain ⟨q2, q3, q5⟩ := un_badw w a1 a2 _ nd _ rfl
  refine bodyPost_ret (results_v2 rfl (.slice 64) (.int .i64) (by kernel_rfl) rfl (by kernel_rfl) rfl rfl rfl q2 q3) rfl ?_
  exact ⟨rfl, q5⟩
 ·have h2b := decide_eq_true h2
  go_enter Try.func35, Try.ntmps35
  go_wp2_with (go_at_call 39; refine (bits_Size.calls k a1 a2 s1 0 _ Hs.out).mono ?_; rintro e w' ⟨rfl, ⟨nd, rfl⟩⟩)
  obtain ⟨q2, q3, q5⟩ := un_badw w a1 a2 _ nd _ rfl
  refine bodyPost_ret (results_v2 rfl (.slice 64) (.int .i64) (by kernel_rfl) rfl (by kernel_rfl) rfl rfl rfl q2 q3) rfl ?_
  exact ⟨rfl, q5⟩
 ·have h2b := decide_eq_false h2
  have h3b := decide_eq_true h3
  go_enter Try.func35, Try.ntmps35
  go_wp2_with (go_at_call 39; refine (bits_Size.calls k a1 a2 s1 0 _ Hs.out).mono ?_; rintro e w' ⟨rfl, ⟨nd, rfl⟩⟩)
  obtain ⟨q2, q3, q5⟩ := un_badw w a1 a2 _ nd _ rfl
  refine bodyPost_ret (results_v2 rfl (.slice 64) (.int .i64) (by kernel_rfl) rfl (by kernel_rfl) rfl rfl rfl q2 q3) rfl ?_
  exact ⟨rfl, q5⟩
theorem bits_Unpack.calls (k : Nat) (A0 : Option Addr) (c0 : Nat) (l0 : List Int) (a1 a2 : Int) (r1 : List Int) (r2 : Int) (w : World) (hr0 : Kd.C (Kd.int .u8) w A0 l0.length l0) (hc0 : l0.length ≤ c0) (h : bits_Unpack.f k l0 a1 a2 = some (r1, r2)) :
  Calls Try.prog 35 #[.slice A0 l0.length c0, .int .i64 a1, .int .i64 a2] w fun e w' => ∃ v0_ : Value, e = .returned (.tuple #[v0_, .int .i64 r2]) ∧ Kd.R (Kd.int .u64) 64 w' w.heap.size (fun _ => True) v0_ r1 ∧ Below w.heap.size w w' := by
 unfold bits_Unpack.f at h
 obtain ⟨⟨s1, s2⟩, hs, h⟩ := Option.bind_eq_some_iff.1 h
 have hl : l0.length ≤ 9223372036854775807 := hr0.2.1
 have bad : ∀ r, ((s2 ≠ 0 ∧ r = s2) ∨ (s2 = 0 ∧ (l0.length : Int) < s1 ∧ r = 6) ∨ (s2 = 0 ∧ ¬ (l0.length : Int) < s1 ∧ s1 < (l0.length : Int) ∧ r = 7)) → ([], r) = (r1, r2) →
   Calls Try.prog 35 #[.slice A0 l0.length c0, .int .i64 a1, .int .i64 a2] w fun e w' => ∃ v0_ : Value, e = .returned (.tuple #[v0_, .int .i64 r2]) ∧ Kd.R (Kd.int .u64) 64 w' w.heap.size (fun _ => True) v0_ r1 ∧ Below w.heap.size w w' := by
  intro r hr e
  obtain ⟨rfl, rfl⟩ : [] = r1 ∧ r = r2 := by simpa using e
  exact (un_bad k A0 c0 l0 a1 a2 s1 s2 w hs r hl hr).mono fun e w' ⟨he, hb⟩ => ⟨_, he, Kd.R_nil _ _ _ _ _, hb⟩
 by_cases c : s2 = 0
 ·rw [if_pos c] at h
  by_cases d : (l0.length : Int) < s1
  ·rw [if_pos d] at h
   exact bad 6 (.inr (.inl ⟨c, d, rfl⟩)) (Option.some.inj h)
  ·rw [if_neg d] at h
   by_cases e : s1 < (l0.length : Int)
   ·rw [if_pos e] at h
    exact bad 7 (.inr (.inr ⟨c, d, e, rfl⟩)) (Option.some.inj h)
   ·rw [if_neg e] at h
    by_cases g : 0 ≤ a1 ∧ a1 ≤ 64 ∧ 0 ≤ a2 ∧ a2 ≤ 1048576 ∧ l0.length ≤ 1048576
    ·rw [if_pos g] at h
     subst c
     exact (callsIn_wide (n := 4)).1 (un_main k A0 c0 l0 a1 a2 s1 w hr0 hc0 hs d e g.1 g.2.1 g.2.2.1 g.2.2.2.1 g.2.2.2.2 r1 r2 (Option.some.inj h) 4 (Nat.le_refl _))
    ·rw [if_neg g] at h
     exact absurd h (by simp)
 ·rw [if_neg c] at h
  exact bad s2 (.inl ⟨c, rfl⟩) (Option.some.inj h)
end Go.Proofs.Ytcklkngljapecaa.X
end

section
namespace Go.Proofs.Ytcklkngljapecaa.X
open Go.RowKit Go.Proofs.YtcklkngljapecaaW.PrintWords Go.Proofs.YtcklkngljapecaaW.PrintLast Go.Proofs.YtcklkngljapecaaW.PrintMore
attribute [local go_sem] max2_int min2_int max_two min_two max_three min_three max_four min_four
set_option linter.unusedVariables false
set_option linter.unusedSimpArgs false
def plain_truths.l0 : Nat → List (S30) → List Int → Int → Int → Option ((List (S30)) × Int)
 | 0, _, _, _, _ => none
 | k + 1, x8, x20, x21, x22 => if x22 < x21 then (if 0 ≤ x22 then (if x22 < (x20.length : Int) then ((datum_Bool.f ((rd x20 x22) == 1)).bind fun bt109 => (if x8.length < 4398046511104 then (plain_truths.l0 k (x8 ++ [(⟨bt109.1, bt109.2.1, bt109.2.2⟩ : S30)]) x20 x21 (wrap64 (x22 + 1))) else (none))) else (none)) else (none)) else (some (x8, 0))
def plain_truths.f (k : Nat) (l0 : List Int) (a1 : Int) : Option ((List (S30)) × Int) := (bits_Unpack.f k l0 1 a1).bind fun bt104 => (if bt104.2 = 0 then (plain_truths.l0 k ([] : List (S30)) bt104.1 (bt104.1.length : Int) 0) else (some (([] : List (S30)), bt104.2)))
theorem plain_truths.mono_l : ∀ k, (∀ y0 y1 y2 y3, LeO (plain_truths.l0 k y0 y1 y2 y3) (plain_truths.l0 (k + 1) y0 y1 y2 y3))
 | 0 => fun _ _ _ _ r h => by simp [plain_truths.l0] at h
 | k + 1 => by
  have ih0 := plain_truths.mono_l k
  ·intro y0 y1 y2 y3
   unfold plain_truths.l0
   repeat' first
   | (with_reducible exact ih0 _ _ _ _)
   | (with_reducible exact bits_Unpack.mono _ _ _ _)
   | (with_reducible exact LeO.refl _)
   | (with_reducible exact LeO.none _)
   | (with_reducible refine LeO.ite ?_ ?_)
   | (with_reducible refine LeO.bind ?_ (fun _ => ?_))
   | exact ih0 _ _ _ _
   | exact bits_Unpack.mono _ _ _ _
   | exact LeO.none _
   | refine LeO.ite ?_ ?_
   | refine LeO.bind ?_ (fun _ => ?_)
theorem plain_truths.mono : ∀ a0 a1 k, LeO (plain_truths.f k a0 a1) (plain_truths.f (k + 1) a0 a1) := by
 intro a0 a1 k
 have ih0 := plain_truths.mono_l k
 unfold plain_truths.f
 repeat' first
   | (with_reducible exact ih0 _ _ _ _)
   | (with_reducible exact bits_Unpack.mono _ _ _ _)
   | (with_reducible exact LeO.refl _)
   | (with_reducible exact LeO.none _)
   | (with_reducible refine LeO.ite ?_ ?_)
   | (with_reducible refine LeO.bind ?_ (fun _ => ?_))
   | exact ih0 _ _ _ _
   | exact bits_Unpack.mono _ _ _ _
   | exact LeO.none _
   | refine LeO.ite ?_ ?_
   | refine LeO.bind ?_ (fun _ => ?_)
set_option maxHeartbeats 8000000 in
set_option maxRecDepth 100000 in
theorem plain_truths.calls (k : Nat) (A0 : Option Addr) (c0 : Nat) (l0 : List Int) (a1 : Int) (r1 : List (S30)) (r2 : Int) (w : World) (hr0 : Kd.C (Kd.int .u8) w A0 l0.length l0) (hc0 : l0.length ≤ c0) (h : plain_truths.f k l0 a1 = some (r1, r2)) :
  Calls Try.prog 23 #[.slice A0 l0.length c0, .int .i64 a1] w fun e w' => ∃ v0_ : Value, e = .returned (.tuple #[v0_, .int .i64 r2]) ∧ Kd.R k30 30 w' w.heap.size (fun _ => True) v0_ r1 ∧ Below w.heap.size w w' := by
 have HR0 := Aside0.mk hr0
 have HC0 := Aside0.mk hc0
 clear hr0 hc0
 have HB := Aside0.mk (Below.refl w.heap.size w)
 have H : ((bits_Unpack.f k l0 1 a1).bind fun bt104 => (if bt104.2 = 0 then (plain_truths.l0 k ([] : List (S30)) bt104.1 (bt104.1.length : Int) 0) else (some (([] : List (S30)), bt104.2)))) = some (r1, r2) := h
 clear h
 replace H := Option.bind_eq_some_iff.mp H
 obtain ⟨⟨t104, t105⟩, A30, H⟩ := H
 replace H : (if t105 = 0 then (plain_truths.l0 k ([] : List (S30)) t104 (t104.length : Int) 0) else (some (([] : List (S30)), t105))) = some (r1, r2) := H
 have A3 := Aside0.mk A30
 clear A30
 by_cases c4 : t105 = 0
 ·rw [if_pos c4] at H
  have c4b0 : (t105 == 0) = true := beq_iff_eq.mpr c4
  have c4b1 : (t105 != 0) = false := bne_eq_false_iff_eq.mpr c4
  clear c4
  have H' := Aside0.mk H
  clear H
  go_enter Try.func23, Try.ntmps23
  go_wp2_with (first | ((with_reducible refine gate_callee (f := 35) rfl ?_); refine goesL_ (some 14) rfl rfl Try.func35 (by kernel_rfl) rfl #[.slice A0 l0.length c0, .int .i64 1, .int .i64 a1] rfl (by (try simp only [List.map_toArray, List.map_cons, List.map_nil]); first | done | rfl | (simp only [List.length_drop, List.length_take]; rfl)) ?_; (with_reducible refine (bits_Unpack.calls k _ _ l0 1 a1 t104 t105 _ ?side1 ?side2 A3.out).mono ?_); (case side1 => repeat (first | exact HR0.out | (with_reducible refine Kd.C_alloc ?_ _) | (with_reducible refine Kd.C_drewN ?_ _) | (with_reducible refine Kd.C_drew ?_))); (case side2 => exact HC0.out); rintro e w5 ⟨v106, rfl, ho0, hb⟩; refine ⟨_, rfl, ?_⟩; have n0_ := Aside0.mk (Kd.R_lower ho0 (below_size (by repeat (first | (with_reducible first | exact HB.out | apply below_alloc | apply pw_below_drewN | apply below_drew1) | exact HB.out)))); have n1_ := Aside0.mk (below_step (by repeat (first | (with_reducible first | exact HB.out | apply below_alloc | apply pw_below_drewN | apply below_drew1) | exact HB.out)) hb); clear HB; have HO107 := n0_; have HB := n1_; clear n0_ n1_; (try clear hb); (try clear hb2); (try clear hk); (try clear hi); (try clear ho0); obtain ⟨Ao6, co6, eo6⟩ := Kd.R_slice HO107.out; subst eo6))
  go_loopg [8, 22] k (fun kq v8 v22 w' => ∃ (x8_1 : List (S30)) (x22_1 : Int), v22 = .int .i64 x22_1 ∧ Aside0 (plain_truths.l0 kq x8_1 t104 (t104.length : Int) x22_1 = some (r1, r2)) ∧ Aside0 (kq ≤ k) ∧ Aside0 (Kd.R k30 30 w' w.heap.size (fun _ => True) v8 x8_1) ∧ Aside0 (Kd.R (Kd.int .u64) 64 w' w.heap.size (fun _ => True) (.slice Ao6 t104.length co6) t104) ∧ Aside0 (Below w.heap.size w w'))
  case atStart => exact ⟨(([] : List (S30))), (0), (by first | rfl | (simp; done) | (simp [*]; done)), H', ⟨Nat.le_refl _⟩, ⟨by first | exact Kd.R_nil _ _ _ _ _ | exact Kd.N_nil _ _ _ _ _ | exact Kd.V_nil _ _ _ _ _ | exact Kd.Q_nil _ _ _ _ _ | exact Kd.S_nil _ _ _ _ _⟩, ⟨by (with_reducible repeat (first | apply Kd.R_alloc | apply Kd.R_drewN | apply Kd.R_drew)); exact HO107.out⟩, ⟨by repeat (first | (with_reducible first | exact HB.out | apply below_alloc | apply pw_below_drewN | apply below_drew1) | exact HB.out)⟩⟩
  case round =>
   clear H'
   try clear c2
   try clear p2
   try clear c3
   try clear c4
   try clear c4b0
   try clear c4b1
   obtain ⟨x8_1, x22_1, rfl, HA, HK1, HO_8, HO_20, HB⟩ := hrel
   cases gk with
   | zero => exact absurd HA.out (by simp [plain_truths.l0])
   | succ k1 =>
    have H := HA.out
    clear HA
    simp only [plain_truths.l0] at H
    by_cases c7 : x22_1 < (t104.length : Int)
    ·rw [if_pos c7] at H
     have c7b0 : decide (x22_1 < (t104.length : Int)) = true := decide_eq_true c7
     clear c7
     by_cases c8 : 0 ≤ x22_1
     ·rw [if_pos c8] at H
      have c8b0 : decide (0 ≤ x22_1) = true := decide_eq_true c8
      clear c8
      by_cases c9 : x22_1 < (t104.length : Int)
      ·rw [if_pos c9] at H
       have c9b0 : decide (x22_1 < (t104.length : Int)) = true := decide_eq_true c9
       clear c9
       replace H := Option.bind_eq_some_iff.mp H
       obtain ⟨⟨t109, t110, t111⟩, A100, H⟩ := H
       replace H : (if x8_1.length < 4398046511104 then (plain_truths.l0 k1 (x8_1 ++ [(⟨t109, t110, t111⟩ : S30)]) t104 (t104.length : Int) (wrap64 (x22_1 + 1))) else (none)) = some (r1, r2) := H
       have A10 := Aside0.mk A100
       clear A100
       by_cases c11 : x8_1.length < 4398046511104
       ·rw [if_pos c11] at H
        have LMc11 := Aside0.mk c11
        clear c11
        obtain ⟨y112, hy112⟩ : ∃ y_ : List (S30), y_ = (x8_1 ++ [(⟨t109, t110, t111⟩ : S30)]) := ⟨_, rfl⟩
        replace H : (plain_truths.l0 k1 y112 t104 (t104.length : Int) (wrap64 (x22_1 + 1))) = some (r1, r2) := by first | (rw [hy112]; with_reducible exact H) | (have H2_ := (Option.bind_some _ _).symm.trans H; rw [hy112]; with_reducible exact H2_) | (have H2_ := (Option.bind_some _ _).symm.trans H; with_reducible exact H2_) | with_reducible exact H | (rw [hy112]; exact H) | exact H
        have Ny112 := Aside0.mk hy112
        clear hy112
        have H' := Aside0.mk H
        clear H
        have p108 : 0 ≤ (x22_1 : Int) := of_decide_eq_true (by first | (with_reducible assumption) | assumption)
        have q108 : x22_1 < (t104.length : Int) := of_decide_eq_true (by first | (with_reducible assumption) | assumption)
        obtain ⟨ad108, e108, hx108_0⟩ := Kd.at_int (Kd.R_reads' HO_20.out).2.2 x22_1 p108 q108
        cases e108
        replace p108 := eq_true p108
        replace q108 := eq_true q108
        go_wp2_with (first | ((with_reducible refine gate_callee (f := 20) rfl ?_); refine goesL_ (some 29) rfl rfl Try.func20 (by kernel_rfl) rfl #[.bool ((rd t104 x22_1) == 1)] rfl (by (try simp only [List.map_toArray, List.map_cons, List.map_nil]); first | done | rfl | (simp only [List.length_drop, List.length_take]; rfl)) ?_; (with_reducible refine (datum_Bool.calls ((rd t104 x22_1) == 1) t109 t110 t111 _ A10.out).mono ?_); rintro e w12 ⟨rfl, hb⟩; refine ⟨_, rfl, ?_⟩; have n0_ := Aside0.mk (Kd.R_below (by (with_reducible repeat (first | apply Kd.R_alloc | apply Kd.R_drewN | apply Kd.R_drew)); exact HO_8.out) hb); have n1_ := Aside0.mk (Kd.R_below (by (with_reducible repeat (first | apply Kd.R_alloc | apply Kd.R_drewN | apply Kd.R_drew)); exact HO_20.out) hb); have n2_ := Aside0.mk (below_step (by repeat (first | (with_reducible first | exact HB.out | apply below_alloc | apply pw_below_drewN | apply below_drew1) | exact HB.out)) hb); clear HO_8; clear HO_20; clear HB; have HO_8 := n0_; have HO_20 := n1_; have HB := n2_; clear n0_ n1_ n2_; (try clear hb); (try clear hb2); (try clear hk); (try clear hi)) | ((with_reducible refine gate_builtin (b := .append) (xs := #[.tmp 26, .tmp 30]) rfl ?_); at_builtin; refine Kd.R_append k30 (w0 := w) w.heap.size rfl (.tmp 26) (.tmp 30) 35 30 (.agg #[(.int .i64 0), (.int .i64 0), (.string ⟨#[]⟩)]) 32 rfl Try.underlying35 info30 rfl (by decide) (by omega) u8 x8_1 (⟨t109, t110, t111⟩ : S30) [.int .i64 t109, .int .i64 t110, .string t111] (fun _ => True) (fun _ => False) rfl rfl ?aP (fun _ hk => hk.elim) ?aF ?aO ?aB ?aS ?aL ?_; (case aP => exact k30_mkM _ _ _ (⟨t109, t110, t111⟩ : S30)); (case aB => exact (by repeat (first | (with_reducible first | exact HB.out | apply below_alloc | apply pw_below_drewN | apply below_drew1) | exact HB.out))); (case aF => exact (fun _ _ => trivial)); (case aO => exact (by (with_reducible repeat (first | apply Kd.R_alloc | apply Kd.R_drewN | apply Kd.R_drew)); exact HO_8.out)); (case aS => exact (below_size (by repeat (first | (with_reducible first | exact HB.out | apply below_alloc | apply pw_below_drewN | apply below_drew1) | exact HB.out)))); (case aL => have := LMc11.out; omega); intro v113 w13 ho hb hg hat; rw [← Ny112.out] at ho; have n0_ := Aside0.mk (Kd.R_over' (by (with_reducible repeat (first | apply Kd.R_alloc | apply Kd.R_drewN | apply Kd.R_drew)); exact HO_20.out) (Kd.R_typed (by (with_reducible repeat (first | apply Kd.R_alloc | apply Kd.R_drewN | apply Kd.R_drew)); exact HO_8.out)) (by decide) hg); have n1_ := Aside0.mk (hb); have n2_ := Aside0.mk (ho); clear HO_20; clear HB; clear HO_8; have HO_20 := n0_; have HB := n1_; have HO114 := n2_; clear n0_ n1_ n2_; clear ho hb hg hat))
        go_roundg k1
        case measure => have := HK1.out; omega
        case rel => exact ⟨(y112), (wrap64 (x22_1 + 1)), (by first | rfl | (simp; done) | (simp [*]; done)), H', ⟨by have := HK1.out; omega⟩, ⟨by (with_reducible repeat (first | apply Kd.R_alloc | apply Kd.R_drewN | apply Kd.R_drew)); exact HO114.out⟩, ⟨by (with_reducible repeat (first | apply Kd.R_alloc | apply Kd.R_drewN | apply Kd.R_drew)); exact HO_20.out⟩, ⟨by repeat (first | (with_reducible first | exact HB.out | apply below_alloc | apply pw_below_drewN | apply below_drew1) | exact HB.out)⟩⟩
       ·rw [if_neg c11] at H
        exact absurd H (by simp)
      ·rw [if_neg c9] at H
       exact absurd H (by simp)
     ·rw [if_neg c8] at H
      exact absurd H (by simp)
    ·rw [if_neg c7] at H
     have c7b0 : decide (x22_1 < (t104.length : Int)) = false := decide_eq_false c7
     clear c7
     simp only [Option.some.injEq, Prod.mk.injEq] at H
     obtain ⟨rfl, rfl⟩ := H
     go_wp2
     go_ret2
     exact ⟨_, by first | rfl | (simp [errW_none, errW_some] <;> rfl) | (simp [*, errW_none, errW_some] <;> rfl), by (with_reducible repeat (first | apply Kd.R_alloc | apply Kd.R_drewN | apply Kd.R_drew)); exact HO_8.out, by repeat (first | (with_reducible first | exact HB.out | apply below_alloc | apply pw_below_drewN | apply below_drew1) | exact HB.out)⟩
 ·rw [if_neg c4] at H
  have c4b0 : (t105 == 0) = false := beq_eq_false_iff_ne.mpr c4
  have c4b1 : (t105 != 0) = true := bne_iff_ne.mpr c4
  simp only [Option.some.injEq, Prod.mk.injEq] at H
  obtain ⟨rfl, rfl⟩ := H
  go_enter Try.func23, Try.ntmps23
  go_wp2_with (first | ((with_reducible refine gate_callee (f := 35) rfl ?_); refine goesL_ (some 14) rfl rfl Try.func35 (by kernel_rfl) rfl #[.slice A0 l0.length c0, .int .i64 1, .int .i64 a1] rfl (by (try simp only [List.map_toArray, List.map_cons, List.map_nil]); first | done | rfl | (simp only [List.length_drop, List.length_take]; rfl)) ?_; (with_reducible refine (bits_Unpack.calls k _ _ l0 1 a1 t104 t105 _ ?side1 ?side2 A3.out).mono ?_); (case side1 => repeat (first | exact HR0.out | (with_reducible refine Kd.C_alloc ?_ _) | (with_reducible refine Kd.C_drewN ?_ _) | (with_reducible refine Kd.C_drew ?_))); (case side2 => exact HC0.out); rintro e w14 ⟨v106, rfl, ho0, hb⟩; refine ⟨_, rfl, ?_⟩; have n0_ := Aside0.mk (Kd.R_lower ho0 (below_size (by repeat (first | (with_reducible first | exact HB.out | apply below_alloc | apply pw_below_drewN | apply below_drew1) | exact HB.out)))); have n1_ := Aside0.mk (below_step (by repeat (first | (with_reducible first | exact HB.out | apply below_alloc | apply pw_below_drewN | apply below_drew1) | exact HB.out)) hb); clear HB; have HO107 := n0_; have HB := n1_; clear n0_ n1_; (try clear hb); (try clear hb2); (try clear hk); (try clear hi); (try clear ho0)))
  go_ret2
  exact ⟨_, by first | rfl | (simp [errW_none, errW_some] <;> rfl) | (simp [*, errW_none, errW_some] <;> rfl), by first | exact Kd.R_nil _ _ _ _ _ | exact Kd.N_nil _ _ _ _ _ | exact Kd.V_nil _ _ _ _ _ | exact Kd.Q_nil _ _ _ _ _ | exact Kd.S_nil _ _ _ _ _, by repeat (first | (with_reducible first | exact HB.out | apply below_alloc | apply pw_below_drewN | apply below_drew1) | exact HB.out)⟩
end Go.Proofs.Ytcklkngljapecaa.X
end

section
namespace Go.Proofs.Ytcklkngljapecaa.X
open Go.RowKit Go.Proofs.YtcklkngljapecaaW.PrintWords Go.Proofs.YtcklkngljapecaaW.PrintLast Go.Proofs.YtcklkngljapecaaW.PrintMore
attribute [local go_sem] max2_int min2_int max_two min_two max_three min_three max_four min_four
set_option linter.unusedVariables false
set_option linter.unusedSimpArgs false
mutual
def bits_ReadLittle.j0 : Nat → List Int → Int → Int → Bool → Option (Int × Int)
 | 0, _, _, _, _ => none
 | k + 1, x0, x1, x2, x10 => if x10 = true then (some (0, 2)) else (if x2 > (wrap64 ((x0.length : Int) - x1)) then (some (0, 6)) else (bits_ReadLittle.l0 k x0 x1 0 x2 0))
def bits_ReadLittle.l0 : Nat → List Int → Int → Int → Int → Int → Option (Int × Int)
 | 0, _, _, _, _, _ => none
 | k + 1, x0, x1, x8, x34, x35 => if x35 < x34 then (if 0 ≤ (wrap64 (x1 + x35)) then (if (wrap64 (x1 + x35)) < (x0.length : Int) then (if 0 ≤ (wrap64 (8 * x35)) then (bits_ReadLittle.l0 k x0 x1 (Go.bits .or .u64 x8 (shl .u64 (IntKind.u64.wrap (rd x0 (wrap64 (x1 + x35)))) (wrap64 (8 * x35)))) x34 (wrap64 (x35 + 1))) else (none)) else (none)) else (none)) else (some (x8, 0))
end
def bits_ReadLittle.f (k : Nat) (l0 : List Int) (a1 : Int) (a2 : Int) : Option (Int × Int) := if a2 < 0 then (bits_ReadLittle.j0 k l0 a1 a2 true) else (if a2 > 8 then (bits_ReadLittle.j0 k l0 a1 a2 true) else (if a1 < 0 then (bits_ReadLittle.j0 k l0 a1 a2 true) else (bits_ReadLittle.j0 k l0 a1 a2 (decide (a1 > (l0.length : Int))))))
theorem bits_ReadLittle.mono_l : ∀ k, (∀ y0 y1 y2 y3, LeO (bits_ReadLittle.j0 k y0 y1 y2 y3) (bits_ReadLittle.j0 (k + 1) y0 y1 y2 y3)) ∧ (∀ y0 y1 y2 y3 y4, LeO (bits_ReadLittle.l0 k y0 y1 y2 y3 y4) (bits_ReadLittle.l0 (k + 1) y0 y1 y2 y3 y4))
 | 0 => ⟨fun _ _ _ _ r h => by simp [bits_ReadLittle.j0] at h, fun _ _ _ _ _ r h => by simp [bits_ReadLittle.l0] at h⟩
 | k + 1 => by
  obtain ⟨ih0, ih1⟩ := bits_ReadLittle.mono_l k
  refine ⟨?_, ?_⟩
  ·intro y0 y1 y2 y3
   unfold bits_ReadLittle.j0
   repeat' first
   | (with_reducible exact ih0 _ _ _ _)
   | (with_reducible exact ih1 _ _ _ _ _)
   | (with_reducible exact LeO.refl _)
   | (with_reducible exact LeO.none _)
   | (with_reducible refine LeO.ite ?_ ?_)
   | (with_reducible refine LeO.bind ?_ (fun _ => ?_))
   | exact ih0 _ _ _ _
   | exact ih1 _ _ _ _ _
   | exact LeO.none _
   | refine LeO.ite ?_ ?_
   | refine LeO.bind ?_ (fun _ => ?_)
  ·intro y0 y1 y2 y3 y4
   unfold bits_ReadLittle.l0
   repeat' first
   | (with_reducible exact ih0 _ _ _ _)
   | (with_reducible exact ih1 _ _ _ _ _)
   | (with_reducible exact LeO.refl _)
   | (with_reducible exact LeO.none _)
   | (with_reducible refine LeO.ite ?_ ?_)
   | (with_reducible refine LeO.bind ?_ (fun _ => ?_))
   | exact ih0 _ _ _ _
   | exact ih1 _ _ _ _ _
   | exact LeO.none _
   | refine LeO.ite ?_ ?_
   | refine LeO.bind ?_ (fun _ => ?_)
theorem bits_ReadLittle.mono : ∀ a0 a1 a2 k, LeO (bits_ReadLittle.f k a0 a1 a2) (bits_ReadLittle.f (k + 1) a0 a1 a2) := by
 intro a0 a1 a2 k
 obtain ⟨ih0, ih1⟩ := bits_ReadLittle.mono_l k
 unfold bits_ReadLittle.f
 repeat' first
   | (with_reducible exact ih0 _ _ _ _)
   | (with_reducible exact ih1 _ _ _ _ _)
   | (with_reducible exact LeO.refl _)
   | (with_reducible exact LeO.none _)
   | (with_reducible refine LeO.ite ?_ ?_)
   | (with_reducible refine LeO.bind ?_ (fun _ => ?_))
   | exact ih0 _ _ _ _
   | exact ih1 _ _ _ _ _
   | exact LeO.none _
   | refine LeO.ite ?_ ?_
   | refine LeO.bind ?_ (fun _ => ?_)
set_option maxHeartbeats 8000000 in
set_option maxRecDepth 100000 in
theorem bits_ReadLittle.calls (k : Nat) (A0 : Option Addr) (c0 : Nat) (l0 : List Int) (a1 : Int) (a2 : Int) (r1 : Int) (r2 : Int) (w : World) (hr0 : Kd.C (Kd.int .u8) w A0 l0.length l0) (hc0 : l0.length ≤ c0) (h : bits_ReadLittle.f k l0 a1 a2 = some (r1, r2)) :
  Calls Try.prog 52 #[.slice A0 l0.length c0, .int .i64 a1, .int .i64 a2] w fun e w' => e = .returned (.tuple #[.int .u64 r1, .int .i64 r2]) ∧ Drawn0 w w' := by
 have HR0 := Aside0.mk hr0
 have HC0 := Aside0.mk hc0
 clear hr0 hc0
 have H : (if a2 < 0 then (bits_ReadLittle.j0 k l0 a1 a2 true) else (if a2 > 8 then (bits_ReadLittle.j0 k l0 a1 a2 true) else (if a1 < 0 then (bits_ReadLittle.j0 k l0 a1 a2 true) else (bits_ReadLittle.j0 k l0 a1 a2 (decide (a1 > (l0.length : Int))))))) = some (r1, r2) := h
 clear h
 have HC4 := Aside0.mk H
 clear H
 go_enter Try.func52, Try.ntmps52
 go_upto_region 1 with (fail)
 go_cut [10] (fun v10 wc => ∃ (kq : Nat) (x10_3 : Bool), v10 = .bool x10_3 ∧ Aside0 (bits_ReadLittle.j0 kq l0 a1 a2 x10_3 = some (r1, r2)) ∧ Aside0 (kq ≤ k) ∧ Drawn0 w wc)
 case first =>
  have H := HC4.out
  clear HC4
  by_cases c5 : a2 < 0
  ·rw [if_pos c5] at H
   have c5b0 : decide (a2 < 0) = true := decide_eq_true c5
   clear c5
   (first | rw [c5b0] | (simp only [i64_w, i32_w]; rw [c5b0]) | skip)
   have H' := Aside0.mk H
   clear H
   go_wp2
   go_meet
   case rel => exact ⟨_, (true), (by first | rfl | (simp; done) | (simp [*]; done)), H', ⟨by first | omega | exact Nat.le_refl _⟩, by repeat (first | exact Drawn0.refl _ | apply Drawn0.step)⟩
  ·rw [if_neg c5] at H
   have c5b0 : decide (a2 < 0) = false := decide_eq_false c5
   clear c5
   (first | rw [c5b0] | (simp only [i64_w, i32_w]; rw [c5b0]) | skip)
   by_cases c6 : a2 > 8
   ·rw [if_pos c6] at H
    have c6b0 : decide (8 < a2) = true := decide_eq_true c6
    clear c6
    have H' := Aside0.mk H
    clear H
    go_wp2
    go_meet
    case rel => exact ⟨_, (true), (by first | rfl | (simp; done) | (simp [*]; done)), H', ⟨by first | omega | exact Nat.le_refl _⟩, by repeat (first | exact Drawn0.refl _ | apply Drawn0.step)⟩
   ·rw [if_neg c6] at H
    have c6b0 : decide (8 < a2) = false := decide_eq_false c6
    clear c6
    by_cases c7 : a1 < 0
    ·rw [if_pos c7] at H
     have c7b0 : decide (a1 < 0) = true := decide_eq_true c7
     clear c7
     have H' := Aside0.mk H
     clear H
     go_wp2
     go_meet
     case rel => exact ⟨_, (true), (by first | rfl | (simp; done) | (simp [*]; done)), H', ⟨by first | omega | exact Nat.le_refl _⟩, by repeat (first | exact Drawn0.refl _ | apply Drawn0.step)⟩
    ·rw [if_neg c7] at H
     have c7b0 : decide (a1 < 0) = false := decide_eq_false c7
     clear c7
     have H' := Aside0.mk H
     clear H
     go_wp2
     go_meet
     case rel => exact ⟨_, (decide (a1 > (l0.length : Int))), (by first | rfl | (simp; done) | (simp [*]; done)), H', ⟨by first | omega | exact Nat.le_refl _⟩, by repeat (first | exact Drawn0.refl _ | apply Drawn0.step)⟩
 case rest =>
  clear HC4
  try clear p2
  try clear c5
  try clear c5b0
  try clear c6
  try clear c6b0
  try clear c7
  try clear c7b0
  obtain ⟨kq, x10_3, rfl, HA, HJ3, ⟨mc3, rfl⟩⟩ := hcut
  cases kq with
  | zero => exact absurd HA.out (by simp [bits_ReadLittle.j0])
  | succ kj3 =>
   have H := HA.out
   clear HA
   simp only [bits_ReadLittle.j0] at H
   by_cases c8 : x10_3 = true
   ·subst c8
    have H1 : (some (0, 2)) = some (r1, r2) := by rw [if_pos rfl] at H; exact H
    clear H
    have H := H1
    clear H1
    simp only [Option.some.injEq, Prod.mk.injEq] at H
    obtain ⟨rfl, rfl⟩ := H
    go_wp2
    go_ret2
    exact ⟨by first | rfl | (simp; done) | (simp [*]; done), by repeat (first | exact Drawn0.refl _ | apply Drawn0.step)⟩
   ·replace c8 := Bool.eq_false_iff.mpr c8
    subst c8
    have H1 : (if a2 > (wrap64 ((l0.length : Int) - a1)) then (some (0, 6)) else (bits_ReadLittle.l0 kj3 l0 a1 0 a2 0)) = some (r1, r2) := by rw [if_neg (show ¬ (false = true) by decide)] at H; exact H
    clear H
    have H := H1
    clear H1
    by_cases c9 : a2 > (wrap64 ((l0.length : Int) - a1))
    ·rw [if_pos c9] at H
     have c9b0 : decide ((wrap64 ((l0.length : Int) - a1)) < a2) = true := decide_eq_true c9
     clear c9
     simp only [Option.some.injEq, Prod.mk.injEq] at H
     obtain ⟨rfl, rfl⟩ := H
     go_wp2
     go_ret2
     exact ⟨by first | rfl | (simp; done) | (simp [*]; done), by repeat (first | exact Drawn0.refl _ | apply Drawn0.step)⟩
    ·rw [if_neg c9] at H
     have c9b0 : decide ((wrap64 ((l0.length : Int) - a1)) < a2) = false := decide_eq_false c9
     clear c9
     have H' := Aside0.mk H
     clear H
     go_wp2
     go_loopg [8, 35] kj3 (fun kq v8 v35 w' => ∃ (x8_2 : Int) (x35_2 : Int), v8 = .int .u64 x8_2 ∧ v35 = .int .i64 x35_2 ∧ Aside0 (bits_ReadLittle.l0 kq l0 a1 x8_2 a2 x35_2 = some (r1, r2)) ∧ Aside0 (kq ≤ kj3) ∧ Drawn0 w w')
     case atStart => exact ⟨(0), (0), (by first | rfl | (simp; done) | (simp [*]; done)), (by first | rfl | (simp; done) | (simp [*]; done)), H', ⟨Nat.le_refl _⟩, by repeat (first | exact Drawn0.refl _ | apply Drawn0.step)⟩
     case round =>
      clear H'
      try clear p2
      try clear c3
      try clear c5
      try clear c5b0
      try clear c6
      try clear c6b0
      try clear p6
      try clear c7
      try clear c7b0
      try clear c8
      try clear c9
      try clear c9b0
      try clear p2
      obtain ⟨x8_2, x35_2, rfl, rfl, HA, HK2, ⟨m2, rfl⟩⟩ := hrel
      cases gk with
      | zero => exact absurd HA.out (by simp [bits_ReadLittle.l0])
      | succ k2 =>
       have H := HA.out
       clear HA
       simp only [bits_ReadLittle.l0] at H
       by_cases c10 : x35_2 < a2
       ·rw [if_pos c10] at H
        have c10b0 : decide (x35_2 < a2) = true := decide_eq_true c10
        clear c10
        obtain ⟨ji11, hji11⟩ : ∃ j_ : Int, (wrap64 (a1 + x35_2)) = j_ := ⟨_, rfl⟩
        replace H : (if 0 ≤ (ji11) then (if (ji11) < (l0.length : Int) then (if 0 ≤ (wrap64 (8 * x35_2)) then (bits_ReadLittle.l0 k2 l0 a1 (Go.bits .or .u64 x8_2 (shl .u64 (IntKind.u64.wrap (rd l0 (ji11))) (wrap64 (8 * x35_2)))) a2 (wrap64 (x35_2 + 1))) else (none)) else (none)) else (none)) = some (r1, r2) := by first | (rw [hji11] at H; exact H) | (simp only [hji11] at H ⊢; exact H)
        have hji11w : (IntKind.i64.wrap (a1 + x35_2)) = ji11 := (i64_w _).trans hji11
        by_cases c12 : 0 ≤ (ji11)
        ·rw [if_pos c12] at H
         have c12b0 : decide (0 ≤ (ji11)) = true := decide_eq_true c12
         clear c12
         by_cases c13 : (ji11) < (l0.length : Int)
         ·rw [if_pos c13] at H
          have c13b0 : decide ((ji11) < (l0.length : Int)) = true := decide_eq_true c13
          clear c13
          obtain ⟨ji14, hji14⟩ : ∃ j_ : Int, (wrap64 (8 * x35_2)) = j_ := ⟨_, rfl⟩
          replace H : (if 0 ≤ (ji14) then (bits_ReadLittle.l0 k2 l0 a1 (Go.bits .or .u64 x8_2 (shl .u64 (IntKind.u64.wrap (rd l0 (ji11))) (ji14))) a2 (wrap64 (x35_2 + 1))) else (none)) = some (r1, r2) := by first | (rw [hji14] at H; exact H) | (simp only [hji14] at H ⊢; exact H)
          have hji14w : (IntKind.i64.wrap (8 * x35_2)) = ji14 := (i64_w _).trans hji14
          by_cases c15 : 0 ≤ (ji14)
          ·rw [if_pos c15] at H
           have c15b0 := eq_true c15
           have c15b1 : decide (0 ≤ (ji14)) = true := decide_eq_true c15
           clear c15
           obtain ⟨ji16, hji16⟩ : ∃ j_ : Int, (shl .u64 (IntKind.u64.wrap (rd l0 (ji11))) (ji14)) = j_ := ⟨_, rfl⟩
           replace H : (bits_ReadLittle.l0 k2 l0 a1 (Go.bits .or .u64 x8_2 (ji16)) a2 (wrap64 (x35_2 + 1))) = some (r1, r2) := by first | (rw [hji16] at H; exact H) | (simp only [hji16] at H ⊢; exact H)
           have hji16_ : (IntKind.u64.wrap ((IntKind.u64.wrap (rd l0 (ji11))) * 2 ^ min (ji14).toNat 64)) = ji16 := hji16
           have hji16z : (ji14) ≤ 64 → (IntKind.u64.wrap ((IntKind.u64.wrap (rd l0 (ji11))) * 2 ^ (ji14).toNat)) = ji16 := shl_small hji16
           have H' := Aside0.mk H
           clear H
           have p232 : 0 ≤ ((ji11) : Int) := of_decide_eq_true (by first | (with_reducible assumption) | assumption)
           have q232 : (ji11) < (l0.length : Int) := of_decide_eq_true (by first | (with_reducible assumption) | assumption)
           obtain ⟨ad232, e232, hx232_0⟩ := Kd.at_int HR0.out (ji11) p232 q232
           cases e232
           replace p232 := eq_true p232
           replace q232 := eq_true q232
           go_wp2
           go_roundg k2
           case measure => have := HJ3.out; have := HK2.out; omega
           case rel => exact ⟨(Go.bits .or .u64 x8_2 (ji16)), (wrap64 (x35_2 + 1)), (by first | rfl | (simp; done) | (simp only [← hji16] <;> (first | rfl | simp)) | (simp [*]; done)), (by first | rfl | (simp; done) | (simp [*]; done)), H', ⟨by have := HJ3.out; have := HK2.out; omega⟩, by repeat (first | exact Drawn0.refl _ | apply Drawn0.step)⟩
          ·rw [if_neg c15] at H
           exact absurd H (by simp)
         ·rw [if_neg c13] at H
          exact absurd H (by simp)
        ·rw [if_neg c12] at H
         exact absurd H (by simp)
       ·rw [if_neg c10] at H
        have c10b0 : decide (x35_2 < a2) = false := decide_eq_false c10
        clear c10
        simp only [Option.some.injEq, Prod.mk.injEq] at H
        obtain ⟨rfl, rfl⟩ := H
        go_wp2
        go_ret2
        exact ⟨by first | rfl | (simp; done) | (simp [*]; done), by repeat (first | exact Drawn0.refl _ | apply Drawn0.step)⟩
end Go.Proofs.Ytcklkngljapecaa.X
end

section
namespace Go.Proofs.Ytcklkngljapecaa.X
open Go.RowKit Go.Proofs.YtcklkngljapecaaW.PrintWords Go.Proofs.YtcklkngljapecaaW.PrintLast Go.Proofs.YtcklkngljapecaaW.PrintMore
abbrev wyMap (W : World) (b n : Nat) (f : Int → Option Value) : Prop := MapK Try.prog W 23 b n f
theorem MapK.agree {P : Program} {k : TypeId} {w : World} {b n n' : Nat} {f f' : Int → Option Value} (h : MapK P w k b n f) (h' : MapK P w k b n' f') {a : Int} (ha : (Lit.int .i64 a).wf = true) : f' a = f a := by
  obtain ⟨D, ⟨es, cl, h1, _, _, e1⟩, _, h3⟩ := h
  obtain ⟨D', ⟨es', cl', h1', _, _, e1'⟩, _, h3'⟩ := h'
  rw [h1] at h1'
  have e2 : es = es' := by injection h1' with h; injection h
  subst e2
  have e3 : D = D' := e1.trans e1'.symm
  subst e3
  obtain ⟨g1, g2⟩ := h3 a ha
  obtain ⟨g1', g2'⟩ := h3' a ha
  cases hf : f a with
  | none =>
    rw [hf] at g1; rw [g1] at g1'
    cases hf' : f' a with
    | none => rfl
    | some v => rw [hf'] at g1'; cases g1'
  | some v =>
    rw [hf] at g1; rw [g1] at g1'
    cases hf' : f' a with
    | none => rw [hf'] at g1'; cases g1'
    | some v' =>
      have e4 := (g2 v hf (.lit (.bool true))).symm.trans (g2' v' hf' (.lit (.bool true)))
      injection e4 with e4
      rw [e4]
def insG (base : Nat) (s kk : Int) (d : Tmp) (ev : Tmp → Value) (W : World) : Prop := (∀ b n f, ev 3 = .map (some b) → wyMap W b n f → f kk = some (ev d)) ∧ WayR W (base + 2) kk s (ev d)
def wyG (base : Nat) (k s : Int) : Nat → (Tmp → Value) → World → Prop
  | 0, ev, _ => ∃ b, ev 3 = .map (some b)
  | 1, ev, W => WayR W (base + 2) 1 s (ev 4)
  | 2, ev, W => insG base s 1 4 ev W
  | 3, ev, W => WayR W (base + 2) 2 s (ev 5)
  | 4, ev, W => insG base s 2 5 ev W
  | 5, ev, W => WayR W (base + 2) 4 s (ev 6)
  | 6, ev, W => insG base s 4 6 ev W
  | 7, ev, W => WayR W (base + 2) 5 s (ev 7)
  | 8, ev, W => insG base s 5 7 ev W
  | 9, ev, W => WayR W (base + 2) 6 s (ev 8)
  | 10, ev, W => insG base s 6 8 ev W
  | 11, ev, _ => ev 9 = .pointer (some ⟨base, 1, none⟩)
  | 12, ev, _ => ev 10 = .int .i64 s
  | 13, ev, W => WayR W (base + 2) 7 s (ev 11)
  | 14, ev, W => insG base s 7 11 ev W
  | 15, ev, W => ev 12 = ev 3 ∧ insG base s 1 4 ev W ∧ insG base s 2 5 ev W ∧ insG base s 4 6 ev W ∧ insG base s 5 7 ev W ∧ insG base s 6 8 ev W ∧ insG base s 7 11 ev W ∧ ∃ b, ev 3 = .map (some b)
  | 16, ev, _ => ev 13 = .pointer (some ⟨base, 0, none⟩)
  | 17, ev, _ => ev 14 = .int .i64 k
  | 18, ev, W => WayR W (base + 2) k s (ev 15)
  | 19, _, W => ∃ cs : Array Value, cs.size = 3 ∧ W.heap[base + 1]? = some (.cells cs 62 (0, 0)) ∧ WayR W (base + 2) k s (.agg cs)
  | _, _, _ => True
def wyU : Nat → List Tmp
  | 0 => [3] | 1 => [4] | 2 => [3, 4] | 3 => [5] | 4 => [3, 5] | 5 => [6] | 6 => [3, 6] | 7 => [7] | 8 => [3, 7] | 9 => [8] | 10 => [3, 8] | 11 => [9] | 12 => [10] | 13 => [11] | 14 => [3, 11]
  | 15 => [3, 12, 4, 5, 6, 7, 8, 11] | 16 => [13] | 17 => [14] | 18 => [15] | _ => []
theorem insG_ev {base : Nat} {s kk : Int} {d : Tmp} {ev ev' : Tmp → Value} {W : World} (h3 : ev' 3 = ev 3) (hd : ev' d = ev d) (h : insG base s kk d ev W) : insG base s kk d ev' W := by
  unfold insG at *
  rw [h3, hd]
  exact h
theorem way_ev {base : Nat} {k s : Int} {v v' : Value} {W : World} (e : v' = v) (h : WayR W base k s v) : WayR W base k s v' := by rw [e]; exact h
theorem wyU_ok (base : Nat) (k s : Int) : ∀ j ev ev' (w : World), (∀ t ∈ wyU j, ev' t = ev t) → wyG base k s j ev w → wyG base k s j ev' w
  | 0, _, _, _, h, ⟨b, g⟩ => ⟨b, (h 3 (by simp [wyU])).trans g⟩
  | 1, _, _, _, h, g => way_ev (h 4 (by simp [wyU])) g
  | 2, _, _, _, h, g => insG_ev (h 3 (by simp [wyU])) (h 4 (by simp [wyU])) g
  | 3, _, _, _, h, g => way_ev (h 5 (by simp [wyU])) g
  | 4, _, _, _, h, g => insG_ev (h 3 (by simp [wyU])) (h 5 (by simp [wyU])) g
  | 5, _, _, _, h, g => way_ev (h 6 (by simp [wyU])) g
  | 6, _, _, _, h, g => insG_ev (h 3 (by simp [wyU])) (h 6 (by simp [wyU])) g
  | 7, _, _, _, h, g => way_ev (h 7 (by simp [wyU])) g
  | 8, _, _, _, h, g => insG_ev (h 3 (by simp [wyU])) (h 7 (by simp [wyU])) g
  | 9, _, _, _, h, g => way_ev (h 8 (by simp [wyU])) g
  | 10, _, _, _, h, g => insG_ev (h 3 (by simp [wyU])) (h 8 (by simp [wyU])) g
  | 11, _, _, _, h, g => (h 9 (by simp [wyU])).trans g
  | 12, _, _, _, h, g => (h 10 (by simp [wyU])).trans g
  | 13, _, _, _, h, g => way_ev (h 11 (by simp [wyU])) g
  | 14, _, _, _, h, g => insG_ev (h 3 (by simp [wyU])) (h 11 (by simp [wyU])) g
  | 15, _, _, _, h, ⟨g, g1, g2, g3, g4, g5, g6, g7⟩ => ⟨(h 12 (by simp [wyU])).trans (Eq.trans g (h 3 (by simp [wyU])).symm), insG_ev (h 3 (by simp [wyU])) (h 4 (by simp [wyU])) g1, insG_ev (h 3 (by simp [wyU])) (h 5 (by simp [wyU])) g2, insG_ev (h 3 (by simp [wyU])) (h 6 (by simp [wyU])) g3,
    insG_ev (h 3 (by simp [wyU])) (h 7 (by simp [wyU])) g4, insG_ev (h 3 (by simp [wyU])) (h 8 (by simp [wyU])) g5, insG_ev (h 3 (by simp [wyU])) (h 11 (by simp [wyU])) g6, g7.elim fun b hb => ⟨b, (h 3 (by simp [wyU])).trans hb⟩⟩
  | 16, _, _, _, h, g => (h 13 (by simp [wyU])).trans g
  | 17, _, _, _, h, g => (h 14 (by simp [wyU])).trans g
  | 18, _, _, _, h, g => way_ev (h 15 (by simp [wyU])) g
  | 19, _, _, _, _, g => g
  | _ + 20, _, _, _, _, _ => trivial
def wyB (w0 : World) (k s : Int) (m : Nat) (a : Act) (W : World) : Prop :=
  Below w0.heap.size w0 W ∧ a.defers = [] ∧ a.tmps.size = 16 ∧ a.eval (.tmp 1) = ptr w0.heap.size ∧ a.eval (.tmp 2) = ptr (w0.heap.size + 1) ∧ W.heap[w0.heap.size]? = some (.cells #[.int .i64 k, .int .i64 s] 25 (0, 0)) ∧
  (∃ cs : Array Value, cs.size = 3 ∧ W.heap[w0.heap.size + 1]? = some (.cells cs 62 (0, 0))) ∧ ∀ b, a.eval (.tmp 3) = .map (some b) → w0.heap.size + 2 ≤ b ∧ ∃ f, wyMap W b m f
theorem put_same {a : Act} {d : Tmp} {v : Value} (h : d < a.tmps.size) : (a.put (some d) v).eval (.tmp d) = v := by
  simp [Act.put, Act.eval, h]
theorem put_ne {a : Act} {d t : Tmp} {v : Value} (h : d ≠ t) : (a.put (some d) v).eval (.tmp t) = a.eval (.tmp t) := Act.eval_put fun _ hd he => by cases hd; injection he with e; exact h e.symm
theorem wyB_step {w0 : World} {k s : Int} {m : Nat} {a : Act} {W W' : World} (h : wyB w0 k s m a W) (hb : Below W.heap.size W W') {d : Tmp} (h1 : d ≠ 1) (h2 : d ≠ 2) (h3 : d ≠ 3) (v : Value) : wyB w0 k s (m + 1) (a.put (some d) v) W' := by
  obtain ⟨g1, g2, g3, g4, g5, g6, ⟨cs, g7, g8⟩, g9⟩ := h
  refine ⟨below_step g1 hb, g2, by simpa [Act.put] using g3, by rw [put_ne h1]; exact g4, by rw [put_ne h2]; exact g5, blk_below g6 hb, ⟨cs, g7, blk_below g8 hb⟩, fun b hb' => ?_⟩
  rw [put_ne h3] at hb'
  obtain ⟨e1, f, e2⟩ := g9 b hb'
  exact ⟨e1, f, (e2.kept (hb.block b e2.lt)).mono (Nat.le_succ _)⟩
theorem insG_below {w0 : World} {k s kk : Int} {m : Nat} {a : Act} {W W' : World} {d : Tmp} (h : wyB w0 k s m a W) (hb : Below W.heap.size W W') (g : insG w0.heap.size s kk d (evOf a) W) : insG w0.heap.size s kk d (evOf a) W' := by
  refine ⟨fun b n f hm hf => g.1 b n f hm (hf.kept ?_), g.2.kept (Keeps.below hb)⟩
  obtain ⟨_, _, _, _, _, _, _, g9⟩ := h
  obtain ⟨_, f', e2⟩ := g9 b hm
  exact (hb.block b e2.lt).symm
theorem wyG_below {w0 : World} {k s : Int} {m : Nat} {a : Act} {W W' : World} (h : wyB w0 k s m a W) (hb : Below W.heap.size W W') : ∀ j, wyG w0.heap.size k s j (evOf a) W → wyG w0.heap.size k s j (evOf a) W'
  | 0, g => g
  | 1, g => WayR.kept (show WayR _ _ _ _ _ from g) (Keeps.below hb)
  | 2, g => insG_below h hb g
  | 3, g => WayR.kept (show WayR _ _ _ _ _ from g) (Keeps.below hb)
  | 4, g => insG_below h hb g
  | 5, g => WayR.kept (show WayR _ _ _ _ _ from g) (Keeps.below hb)
  | 6, g => insG_below h hb g
  | 7, g => WayR.kept (show WayR _ _ _ _ _ from g) (Keeps.below hb)
  | 8, g => insG_below h hb g
  | 9, g => WayR.kept (show WayR _ _ _ _ _ from g) (Keeps.below hb)
  | 10, g => insG_below h hb g
  | 11, g => g
  | 12, g => g
  | 13, g => WayR.kept (show WayR _ _ _ _ _ from g) (Keeps.below hb)
  | 14, g => insG_below h hb g
  | 15, ⟨g, g1, g2, g3, g4, g5, g6, g7⟩ => ⟨g, insG_below h hb g1, insG_below h hb g2, insG_below h hb g3, insG_below h hb g4, insG_below h hb g5, insG_below h hb g6, g7⟩
  | 16, g => g
  | 17, g => g
  | 18, g => WayR.kept (show WayR _ _ _ _ _ from g) (Keeps.below hb)
  | 19, ⟨cs, h1, h2, h3⟩ => ⟨cs, h1, blk_below h2 hb, h3.kept (Keeps.below hb)⟩
  | _ + 20, _ => trivial
theorem insG_put {w0 : World} {s kk kk' : Int} {m : Nat} {a : Act} {W W' : World} {d : Tmp} {b : Nat} {f : Int → Option Value} {v : Value} (hwf : (Lit.int .i64 kk').wf = true) (hne : kk' ≠ kk) (hm : evOf a 3 = .map (some b)) (h : wyMap W b m f) (h' : wyMap W' b (m + 1) (fun x => if x = kk then some v else f x)) (hg : W.grownBy W' (some b))
    (g : insG w0.heap.size s kk' d (evOf a) W) : insG w0.heap.size s kk' d (evOf a) W' := by
  refine ⟨fun b' n f' hm' hf' => ?_, g.2.kept (Keeps.map h hg)⟩
  rw [hm] at hm'
  have e : b = b' := by injection hm' with e; injection e
  subst e
  have e1 := h'.agree hf' hwf
  rw [e1]
  show (if kk' = kk then some v else f kk') = _
  rw [if_neg hne]
  exact g.1 b m f hm h
theorem insG_new {w0 : World} {s kk : Int} {m : Nat} {a : Act} {W W' : World} {d : Tmp} {b : Nat} {f : Int → Option Value} (hwf : (Lit.int .i64 kk).wf = true) (hm : evOf a 3 = .map (some b)) (h : wyMap W b m f) (h' : wyMap W' b (m + 1) (fun x => if x = kk then some (evOf a d) else f x)) (hg : W.grownBy W' (some b))
    (g : WayR W (w0.heap.size + 2) kk s (evOf a d)) : insG w0.heap.size s kk d (evOf a) W' := by
  refine ⟨fun b' n f' hm' hf' => ?_, g.kept (Keeps.map h hg)⟩
  rw [hm] at hm'
  have e : b = b' := by injection hm' with e; injection e
  subst e
  rw [h'.agree hf' hwf]
  show (if kk = kk then some (evOf a d) else f kk) = _
  rw [if_pos rfl]
theorem wyB_put {w0 : World} {k s : Int} {m : Nat} {a : Act} {W W' : World} {b : Nat} {f : Int → Option Value} (h : wyB w0 k s m a W) (hm : a.eval (.tmp 3) = .map (some b)) (hb : w0.heap.size + 2 ≤ b) (h' : wyMap W' b (m + 1) f) (hg : W.grownBy W' (some b)) : wyB w0 k s (m + 1) a W' := by
  obtain ⟨g1, g2, g3, g4, g5, g6, ⟨cs, g7, g8⟩, g9⟩ := h
  refine ⟨g1.grown hg g1.size (fun k hk => by cases hk; omega), g2, g3, g4, g5, blk_grown g6 hg (fun e => by injection e with e; omega), ⟨cs, g7, blk_grown g8 hg (fun e => by injection e with e; omega)⟩, fun b' hb' => ?_⟩
  rw [hm] at hb'
  have e : b = b' := by injection hb' with e; injection e
  subst e
  exact ⟨hb, f, h'⟩
theorem wyG_put2 {w0 : World} {k s : Int} {m : Nat} {a : Act} {W W' : World} {b : Nat} {f : Int → Option Value} {v : Value} (hm : evOf a 3 = .map (some b)) (hb : w0.heap.size + 2 ≤ b) (h : wyMap W b m f) (h' : wyMap W' b (m + 1) (fun x => if x = 1 then some v else f x)) (hg : W.grownBy W' (some b)) :
    ∀ j, j ≠ 2 → j ≠ 15 → wyG w0.heap.size k s j (evOf a) W → wyG w0.heap.size k s j (evOf a) W'
  | 0, _, _, g => g
  | 1, _, _, g => WayR.kept (show WayR _ _ _ _ _ from g) (Keeps.map h hg)
  | 2, hj, _, _ => absurd rfl hj
  | 3, _, _, g => WayR.kept (show WayR _ _ _ _ _ from g) (Keeps.map h hg)
  | 4, _, _, g => insG_put (by decide) (by decide) hm h h' hg g
  | 5, _, _, g => WayR.kept (show WayR _ _ _ _ _ from g) (Keeps.map h hg)
  | 6, _, _, g => insG_put (by decide) (by decide) hm h h' hg g
  | 7, _, _, g => WayR.kept (show WayR _ _ _ _ _ from g) (Keeps.map h hg)
  | 8, _, _, g => insG_put (by decide) (by decide) hm h h' hg g
  | 9, _, _, g => WayR.kept (show WayR _ _ _ _ _ from g) (Keeps.map h hg)
  | 10, _, _, g => insG_put (by decide) (by decide) hm h h' hg g
  | 11, _, _, g => g
  | 12, _, _, g => g
  | 13, _, _, g => WayR.kept (show WayR _ _ _ _ _ from g) (Keeps.map h hg)
  | 14, _, _, g => insG_put (by decide) (by decide) hm h h' hg g
  | 15, _, hj, _ => absurd rfl hj
  | 16, _, _, g => g
  | 17, _, _, g => g
  | 18, _, _, g => WayR.kept (show WayR _ _ _ _ _ from g) (Keeps.map h hg)
  | 19, _, _, ⟨cs, h1, h2, h3⟩ => ⟨cs, h1, blk_grown h2 hg (fun e => by injection e with e; omega), h3.kept (Keeps.map h hg)⟩
  | _ + 20, _, _, _ => trivial
theorem wyG_put4 {w0 : World} {k s : Int} {m : Nat} {a : Act} {W W' : World} {b : Nat} {f : Int → Option Value} {v : Value} (hm : evOf a 3 = .map (some b)) (hb : w0.heap.size + 2 ≤ b) (h : wyMap W b m f) (h' : wyMap W' b (m + 1) (fun x => if x = 2 then some v else f x)) (hg : W.grownBy W' (some b)) :
    ∀ j, j ≠ 4 → j ≠ 15 → wyG w0.heap.size k s j (evOf a) W → wyG w0.heap.size k s j (evOf a) W'
  | 0, _, _, g => g
  | 1, _, _, g => WayR.kept (show WayR _ _ _ _ _ from g) (Keeps.map h hg)
  | 2, _, _, g => insG_put (by decide) (by decide) hm h h' hg g
  | 3, _, _, g => WayR.kept (show WayR _ _ _ _ _ from g) (Keeps.map h hg)
  | 4, hj, _, _ => absurd rfl hj
  | 5, _, _, g => WayR.kept (show WayR _ _ _ _ _ from g) (Keeps.map h hg)
  | 6, _, _, g => insG_put (by decide) (by decide) hm h h' hg g
  | 7, _, _, g => WayR.kept (show WayR _ _ _ _ _ from g) (Keeps.map h hg)
  | 8, _, _, g => insG_put (by decide) (by decide) hm h h' hg g
  | 9, _, _, g => WayR.kept (show WayR _ _ _ _ _ from g) (Keeps.map h hg)
  | 10, _, _, g => insG_put (by decide) (by decide) hm h h' hg g
  | 11, _, _, g => g
  | 12, _, _, g => g
  | 13, _, _, g => WayR.kept (show WayR _ _ _ _ _ from g) (Keeps.map h hg)
  | 14, _, _, g => insG_put (by decide) (by decide) hm h h' hg g
  | 15, _, hj, _ => absurd rfl hj
  | 16, _, _, g => g
  | 17, _, _, g => g
  | 18, _, _, g => WayR.kept (show WayR _ _ _ _ _ from g) (Keeps.map h hg)
  | 19, _, _, ⟨cs, h1, h2, h3⟩ => ⟨cs, h1, blk_grown h2 hg (fun e => by injection e with e; omega), h3.kept (Keeps.map h hg)⟩
  | _ + 20, _, _, _ => trivial
theorem wyG_put6 {w0 : World} {k s : Int} {m : Nat} {a : Act} {W W' : World} {b : Nat} {f : Int → Option Value} {v : Value} (hm : evOf a 3 = .map (some b)) (hb : w0.heap.size + 2 ≤ b) (h : wyMap W b m f) (h' : wyMap W' b (m + 1) (fun x => if x = 4 then some v else f x)) (hg : W.grownBy W' (some b)) :
    ∀ j, j ≠ 6 → j ≠ 15 → wyG w0.heap.size k s j (evOf a) W → wyG w0.heap.size k s j (evOf a) W'
  | 0, _, _, g => g
  | 1, _, _, g => WayR.kept (show WayR _ _ _ _ _ from g) (Keeps.map h hg)
  | 2, _, _, g => insG_put (by decide) (by decide) hm h h' hg g
  | 3, _, _, g => WayR.kept (show WayR _ _ _ _ _ from g) (Keeps.map h hg)
  | 4, _, _, g => insG_put (by decide) (by decide) hm h h' hg g
  | 5, _, _, g => WayR.kept (show WayR _ _ _ _ _ from g) (Keeps.map h hg)
  | 6, hj, _, _ => absurd rfl hj
  | 7, _, _, g => WayR.kept (show WayR _ _ _ _ _ from g) (Keeps.map h hg)
  | 8, _, _, g => insG_put (by decide) (by decide) hm h h' hg g
  | 9, _, _, g => WayR.kept (show WayR _ _ _ _ _ from g) (Keeps.map h hg)
  | 10, _, _, g => insG_put (by decide) (by decide) hm h h' hg g
  | 11, _, _, g => g
  | 12, _, _, g => g
  | 13, _, _, g => WayR.kept (show WayR _ _ _ _ _ from g) (Keeps.map h hg)
  | 14, _, _, g => insG_put (by decide) (by decide) hm h h' hg g
  | 15, _, hj, _ => absurd rfl hj
  | 16, _, _, g => g
  | 17, _, _, g => g
  | 18, _, _, g => WayR.kept (show WayR _ _ _ _ _ from g) (Keeps.map h hg)
  | 19, _, _, ⟨cs, h1, h2, h3⟩ => ⟨cs, h1, blk_grown h2 hg (fun e => by injection e with e; omega), h3.kept (Keeps.map h hg)⟩
  | _ + 20, _, _, _ => trivial
theorem wyG_put8 {w0 : World} {k s : Int} {m : Nat} {a : Act} {W W' : World} {b : Nat} {f : Int → Option Value} {v : Value} (hm : evOf a 3 = .map (some b)) (hb : w0.heap.size + 2 ≤ b) (h : wyMap W b m f) (h' : wyMap W' b (m + 1) (fun x => if x = 5 then some v else f x)) (hg : W.grownBy W' (some b)) :
    ∀ j, j ≠ 8 → j ≠ 15 → wyG w0.heap.size k s j (evOf a) W → wyG w0.heap.size k s j (evOf a) W'
  | 0, _, _, g => g
  | 1, _, _, g => WayR.kept (show WayR _ _ _ _ _ from g) (Keeps.map h hg)
  | 2, _, _, g => insG_put (by decide) (by decide) hm h h' hg g
  | 3, _, _, g => WayR.kept (show WayR _ _ _ _ _ from g) (Keeps.map h hg)
  | 4, _, _, g => insG_put (by decide) (by decide) hm h h' hg g
  | 5, _, _, g => WayR.kept (show WayR _ _ _ _ _ from g) (Keeps.map h hg)
  | 6, _, _, g => insG_put (by decide) (by decide) hm h h' hg g
  | 7, _, _, g => WayR.kept (show WayR _ _ _ _ _ from g) (Keeps.map h hg)
  | 8, hj, _, _ => absurd rfl hj
  | 9, _, _, g => WayR.kept (show WayR _ _ _ _ _ from g) (Keeps.map h hg)
  | 10, _, _, g => insG_put (by decide) (by decide) hm h h' hg g
  | 11, _, _, g => g
  | 12, _, _, g => g
  | 13, _, _, g => WayR.kept (show WayR _ _ _ _ _ from g) (Keeps.map h hg)
  | 14, _, _, g => insG_put (by decide) (by decide) hm h h' hg g
  | 15, _, hj, _ => absurd rfl hj
  | 16, _, _, g => g
  | 17, _, _, g => g
  | 18, _, _, g => WayR.kept (show WayR _ _ _ _ _ from g) (Keeps.map h hg)
  | 19, _, _, ⟨cs, h1, h2, h3⟩ => ⟨cs, h1, blk_grown h2 hg (fun e => by injection e with e; omega), h3.kept (Keeps.map h hg)⟩
  | _ + 20, _, _, _ => trivial
theorem wyG_put10 {w0 : World} {k s : Int} {m : Nat} {a : Act} {W W' : World} {b : Nat} {f : Int → Option Value} {v : Value} (hm : evOf a 3 = .map (some b)) (hb : w0.heap.size + 2 ≤ b) (h : wyMap W b m f) (h' : wyMap W' b (m + 1) (fun x => if x = 6 then some v else f x)) (hg : W.grownBy W' (some b)) :
    ∀ j, j ≠ 10 → j ≠ 15 → wyG w0.heap.size k s j (evOf a) W → wyG w0.heap.size k s j (evOf a) W'
  | 0, _, _, g => g
  | 1, _, _, g => WayR.kept (show WayR _ _ _ _ _ from g) (Keeps.map h hg)
  | 2, _, _, g => insG_put (by decide) (by decide) hm h h' hg g
  | 3, _, _, g => WayR.kept (show WayR _ _ _ _ _ from g) (Keeps.map h hg)
  | 4, _, _, g => insG_put (by decide) (by decide) hm h h' hg g
  | 5, _, _, g => WayR.kept (show WayR _ _ _ _ _ from g) (Keeps.map h hg)
  | 6, _, _, g => insG_put (by decide) (by decide) hm h h' hg g
  | 7, _, _, g => WayR.kept (show WayR _ _ _ _ _ from g) (Keeps.map h hg)
  | 8, _, _, g => insG_put (by decide) (by decide) hm h h' hg g
  | 9, _, _, g => WayR.kept (show WayR _ _ _ _ _ from g) (Keeps.map h hg)
  | 10, hj, _, _ => absurd rfl hj
  | 11, _, _, g => g
  | 12, _, _, g => g
  | 13, _, _, g => WayR.kept (show WayR _ _ _ _ _ from g) (Keeps.map h hg)
  | 14, _, _, g => insG_put (by decide) (by decide) hm h h' hg g
  | 15, _, hj, _ => absurd rfl hj
  | 16, _, _, g => g
  | 17, _, _, g => g
  | 18, _, _, g => WayR.kept (show WayR _ _ _ _ _ from g) (Keeps.map h hg)
  | 19, _, _, ⟨cs, h1, h2, h3⟩ => ⟨cs, h1, blk_grown h2 hg (fun e => by injection e with e; omega), h3.kept (Keeps.map h hg)⟩
  | _ + 20, _, _, _ => trivial
theorem wyG_put14 {w0 : World} {k s : Int} {m : Nat} {a : Act} {W W' : World} {b : Nat} {f : Int → Option Value} {v : Value} (hm : evOf a 3 = .map (some b)) (hb : w0.heap.size + 2 ≤ b) (h : wyMap W b m f) (h' : wyMap W' b (m + 1) (fun x => if x = 7 then some v else f x)) (hg : W.grownBy W' (some b)) :
    ∀ j, j ≠ 14 → j ≠ 15 → wyG w0.heap.size k s j (evOf a) W → wyG w0.heap.size k s j (evOf a) W'
  | 0, _, _, g => g
  | 1, _, _, g => WayR.kept (show WayR _ _ _ _ _ from g) (Keeps.map h hg)
  | 2, _, _, g => insG_put (by decide) (by decide) hm h h' hg g
  | 3, _, _, g => WayR.kept (show WayR _ _ _ _ _ from g) (Keeps.map h hg)
  | 4, _, _, g => insG_put (by decide) (by decide) hm h h' hg g
  | 5, _, _, g => WayR.kept (show WayR _ _ _ _ _ from g) (Keeps.map h hg)
  | 6, _, _, g => insG_put (by decide) (by decide) hm h h' hg g
  | 7, _, _, g => WayR.kept (show WayR _ _ _ _ _ from g) (Keeps.map h hg)
  | 8, _, _, g => insG_put (by decide) (by decide) hm h h' hg g
  | 9, _, _, g => WayR.kept (show WayR _ _ _ _ _ from g) (Keeps.map h hg)
  | 10, _, _, g => insG_put (by decide) (by decide) hm h h' hg g
  | 11, _, _, g => g
  | 12, _, _, g => g
  | 13, _, _, g => WayR.kept (show WayR _ _ _ _ _ from g) (Keeps.map h hg)
  | 14, hj, _, _ => absurd rfl hj
  | 15, _, hj, _ => absurd rfl hj
  | 16, _, _, g => g
  | 17, _, _, g => g
  | 18, _, _, g => WayR.kept (show WayR _ _ _ _ _ from g) (Keeps.map h hg)
  | 19, _, _, ⟨cs, h1, h2, h3⟩ => ⟨cs, h1, blk_grown h2 hg (fun e => by injection e with e; omega), h3.kept (Keeps.map h hg)⟩
  | _ + 20, _, _, _ => trivial
theorem insG_row {w0 : World} {k s kk : Int} {m : Nat} {a : Act} {W : World} {d : Tmp} (h : wyB w0 k s m a W) (cs : Array Value) (g : insG w0.heap.size s kk d (evOf a) W) : insG w0.heap.size s kk d (evOf a) (W.setRow (w0.heap.size + 1) cs) := by
  refine ⟨fun b n f hm hf => g.1 b n f hm (hf.kept ?_), g.2.kept (fun g' c t fr hb hg => by rw [setRow_other _ _ _ _ (by omega)]; exact hg)⟩
  obtain ⟨_, _, _, _, _, _, _, g9⟩ := h
  obtain ⟨hb, _⟩ := g9 b hm
  exact (setRow_other _ _ _ _ (by omega)).symm
theorem way_row {base : Nat} {k s : Int} {v : Value} {W : World} (cs : Array Value) (h : WayR W (base + 2) k s v) : WayR (W.setRow (base + 1) cs) (base + 2) k s v := h.kept (fun g' c t fr hb hg => by rw [setRow_other _ _ _ _ (by omega)]; exact hg)
theorem wyG_row {w0 : World} {k s : Int} {m : Nat} {a : Act} {W : World} (h : wyB w0 k s m a W) (cs : Array Value) : ∀ j, j ≠ 19 → wyG w0.heap.size k s j (evOf a) W → wyG w0.heap.size k s j (evOf a) (W.setRow (w0.heap.size + 1) cs)
  | 0, _, g => g
  | 1, _, g => way_row cs g
  | 2, _, g => insG_row h cs g
  | 3, _, g => way_row cs g
  | 4, _, g => insG_row h cs g
  | 5, _, g => way_row cs g
  | 6, _, g => insG_row h cs g
  | 7, _, g => way_row cs g
  | 8, _, g => insG_row h cs g
  | 9, _, g => way_row cs g
  | 10, _, g => insG_row h cs g
  | 11, _, g => g
  | 12, _, g => g
  | 13, _, g => way_row cs g
  | 14, _, g => insG_row h cs g
  | 15, _, ⟨g, g1, g2, g3, g4, g5, g6, g7⟩ => ⟨g, insG_row h cs g1, insG_row h cs g2, insG_row h cs g3, insG_row h cs g4, insG_row h cs g5, insG_row h cs g6, g7⟩
  | 16, _, g => g
  | 17, _, g => g
  | 18, _, g => way_row cs g
  | 19, hj, _ => absurd rfl hj
  | _ + 20, _, _ => trivial
end Go.Proofs.Ytcklkngljapecaa.X
end

section
namespace Go.Proofs.Ytcklkngljapecaa.X
open Go.RowKit Go.Proofs.YtcklkngljapecaaW.PrintWords Go.Proofs.YtcklkngljapecaaW.PrintLast Go.Proofs.YtcklkngljapecaaW.PrintMore
section
variable {w0 : World} {k s : Int} {m : Nat} {a : Act} {W : World} {o : Oper} {Q : Exit → Act → World → Prop}
theorem ev_ne {a : Act} {d t : Tmp} {v : Value} (h : d ≠ t) : evOf (a.put (some d) v) t = evOf a t := put_ne h
theorem wyB_size (h : wyB w0 k s m a W) : w0.heap.size + 2 ≤ W.heap.size := by
  obtain ⟨_, _, _, _, _, _, ⟨cs, _, g8⟩, _⟩ := h
  have := blk_lt g8
  omega
def wyPost (w0 : World) (k s : Int) (m i : Nat) (o : Oper) (a : Act) (W : World) (a' : Act) (w' : World) : Prop :=
  (∃ v, a' = a.put o.dst v) ∧ wyB w0 k s (m + 1) a' w' ∧ wyG w0.heap.size k s i (evOf a') w' ∧ ∀ j, j ≠ i → (i < 15 → j ≠ 15) → wyG w0.heap.size k s j (evOf a) W → wyG w0.heap.size k s j (evOf a) w'
theorem wy_val {i : Nat} {d : Tmp} {v : Value} {W' : World} (h : wyB w0 k s m a W) (hd : o.dst = some d) (h1 : d ≠ 1) (h2 : d ≠ 2) (h3 : d ≠ 3) (hb : Below W.heap.size W W') (hr : (execOp a.eval o).run Try.prog W = .ok (.value v) W')
    (hg : (a.put (some d) v).eval (.tmp d) = v → wyG w0.heap.size k s i (evOf (a.put (some d) v)) W') (h16 : d < 16) : o.wp Try.prog a W (wyPost w0 k s m i o a W) Q := by
  refine wp_of_value hr ⟨⟨v, rfl⟩, ?_, ?_, fun j _ _ hj => wyG_below h hb j hj⟩
  · rw [hd]; exact wyB_step h hb h1 h2 h3 v
  · rw [hd]; exact hg (put_same (by rw [h.2.2.1]; exact h16))
theorem wy_made (h : wyB w0 k s m a W) (hop : o.op = .makeMap 85 none) (hd : o.dst = some 3) : o.wp Try.prog a W (wyPost w0 k s m 0 o a W) Q := by
  have hmm := @run_makeMap Try.prog
  refine wp_of_value (v := .map (some W.heap.size)) (w' := W.alloc (.map #[] 0)) (by simp [execOp, hop, hmm, Result.andThen]) ?_
  have hb : Below W.heap.size W (W.alloc (.map #[] 0)) := below_alloc (Below.refl _ _) _
  refine ⟨⟨_, rfl⟩, ?_, ?_, fun j _ _ hj => wyG_below h hb j hj⟩
  · rw [hd]
    have hs := wyB_size h
    obtain ⟨g1, g2, g3, g4, g5, g6, ⟨cs, g7, g8⟩, g9⟩ := h
    refine ⟨below_step g1 hb, g2, by simpa [Act.put] using g3, by rw [put_ne (by decide)]; exact g4, by rw [put_ne (by decide)]; exact g5, blk_below g6 hb, ⟨cs, g7, blk_below g8 hb⟩, fun b hb' => ?_⟩
    rw [put_same (by rw [g3]; decide)] at hb'
    have e : W.heap.size = b := by injection hb' with e; injection e
    subst e
    exact ⟨hs, _, (MapK.made W).mono (Nat.zero_le _)⟩
  · rw [hd]
    exact ⟨_, put_same (by rw [h.2.2.1]; decide)⟩
theorem wy_whole {i : Nat} {d : Tmp} {kk : Int} (h : wyB w0 k s m a W) (hop : o.op = .call { callee := .value (.func 32), args := #[.const (.int .i64 kk), .const (.int .i64 (wide kk))], argTypes := #[23, 3] }) (hd : o.dst = some d) (h1 : d ≠ 1) (h2 : d ≠ 2) (h3 : d ≠ 3) (h16 : d < 16)
    (hk : kk = 1 ∨ kk = 4 ∨ kk = 2 ∨ kk = 5) (hg : ∀ ev w, WayR w (w0.heap.size + 2) kk s (ev d) → wyG w0.heap.size k s i ev w) : o.wp Try.prog a W (wyPost w0 k s m i o a W) Q := by
  refine wp_of_enter (f := 32) (args := #[.int .i64 kk, .int .i64 (wide kk)]) (by simp [execOp, hop, resolve, invoke, Act.eval]; rfl) ?_
  refine (whole_calls kk (wide kk) W).mono ?_
  rintro e W' ⟨gb, gk, rfl, g1, g2, g3, g4, hb⟩
  have hs := wyB_size h
  refine ⟨_, rfl, ⟨_, rfl⟩, ?_, ?_, fun j _ _ hj => wyG_below h hb j hj⟩
  · rw [hd]; exact wyB_step h hb h1 h2 h3 _
  · rw [hd]
    exact hg _ _ (way_ev (put_same (by rw [h.2.2.1]; exact h16)) (.inl ⟨hk, gb, gk, rfl, by omega, by omega, g3, g4⟩))
theorem wy_long {d : Tmp} {i : Nat} (h : wyB w0 k s m a W) (hop : o.op = .call { callee := .value (.func 33), args := #[], argTypes := #[] }) (hd : o.dst = some d) (h1 : d ≠ 1) (h2 : d ≠ 2) (h3 : d ≠ 3) (h16 : d < 16)
    (hg : ∀ ev w, WayR w (w0.heap.size + 2) 6 s (ev d) → wyG w0.heap.size k s i ev w) : o.wp Try.prog a W (wyPost w0 k s m i o a W) Q := by
  refine wp_of_enter (f := 33) (args := #[]) (by simp [execOp, hop, resolve, invoke, Act.eval]; rfl) ?_
  refine (long_calls W).mono ?_
  rintro e W' ⟨rfl, hb⟩
  refine ⟨_, rfl, ⟨_, rfl⟩, ?_, ?_, fun j _ _ hj => wyG_below h hb j hj⟩
  · rw [hd]; exact wyB_step h hb h1 h2 h3 _
  · rw [hd]
    exact hg _ _ (way_ev (put_same (by rw [h.2.2.1]; exact h16)) (.inr (.inl ⟨rfl, rfl⟩)))
theorem wy_fixed {d : Tmp} {i : Nat} (h : wyB w0 k s m a W) (hop : o.op = .call { callee := .value (.func 34), args := #[.tmp 10], argTypes := #[3] }) (hd : o.dst = some d) (h1 : d ≠ 1) (h2 : d ≠ 2) (h3 : d ≠ 3) (h16 : d < 16) (hs10 : evOf a 10 = .int .i64 s)
    (hg : ∀ ev w, WayR w (w0.heap.size + 2) 7 s (ev d) → wyG w0.heap.size k s i ev w) : o.wp Try.prog a W (wyPost w0 k s m i o a W) Q := by
  have hs10' : a.eval (.tmp 10) = .int .i64 s := hs10
  refine wp_of_enter (f := 34) (args := #[.int .i64 s]) (by simp [execOp, hop, resolve, invoke, hs10']; rfl) ?_
  refine (fixed_calls s W).mono ?_
  rintro e W' ⟨g, rfl, g1, g2, hb⟩
  have hs := wyB_size h
  refine ⟨_, rfl, ⟨_, rfl⟩, ?_, ?_, fun j _ _ hj => wyG_below h hb j hj⟩
  · rw [hd]; exact wyB_step h hb h1 h2 h3 _
  · rw [hd]
    exact hg _ _ (way_ev (put_same (by rw [h.2.2.1]; exact h16)) (.inr (.inr ⟨rfl, g, rfl, by omega, g2⟩)))
theorem wy_ins {i : Nat} {d : Tmp} {kk : Int} (h : wyB w0 k s m a W) (hop : o.op = .insert 85 (.tmp 3) (.const (.int .i64 kk)) (.tmp d)) (hd : o.dst = none) (hwf : (Lit.int .i64 kk).wf = true) (hm : m < maxLen)
    (h3 : ∃ b, evOf a 3 = .map (some b)) (hw : WayR W (w0.heap.size + 2) kk s (evOf a d)) (hg : ∀ ev w, insG w0.heap.size s kk d ev w → wyG w0.heap.size k s i ev w)
    (hf : ∀ {W' : World} {b : Nat} {f : Int → Option Value} {v : Value}, evOf a 3 = .map (some b) → w0.heap.size + 2 ≤ b → wyMap W b m f → wyMap W' b (m + 1) (fun x => if x = kk then some v else f x) → W.grownBy W' (some b) → ∀ j, j ≠ i → j ≠ 15 → wyG w0.heap.size k s j (evOf a) W → wyG w0.heap.size k s j (evOf a) W') (hi : i < 15) : o.wp Try.prog a W (wyPost w0 k s m i o a W) Q := by
  obtain ⟨b, h3⟩ := h3
  have h3' : a.eval (.tmp 3) = .map (some b) := h3
  obtain ⟨hb, f, hM⟩ := h.2.2.2.2.2.2.2 b h3
  obtain ⟨W', hrun, hM', hg'⟩ := hM.put (t := 85) (e := 62) Try.underlying23 Try.underlying85 hm kk hwf (a.eval (.tmp d))
  refine wp_of_skip (w' := W') (by simp only [execOp, hop, h3', show a.eval (.const (.int .i64 kk)) = .int .i64 kk from rfl]; simp [hrun, Result.andThen]) ?_
  rw [hd]
  refine ⟨⟨undef, by rw [hd]⟩, wyB_put h h3 hb hM' hg', hg _ _ (insG_new hwf h3 hM hM' hg' hw), fun j hj hj15 => hf h3 hb hM hM' hg' j hj (hj15 hi)⟩
theorem wy_look {v : Value} (h : wyB w0 k s m a W) (hop : o.op = .lookup 85 (.tmp 12) (.tmp 14) false) (hd : o.dst = some 15) (hkw : (Lit.int .i64 k).wf = true) (h3 : ∃ b, evOf a 3 = .map (some b)) (h12 : evOf a 12 = evOf a 3) (h14 : evOf a 14 = .int .i64 k)
    (hv : ∀ b n f, evOf a 3 = .map (some b) → wyMap W b n f → f k = some v) (hw : WayR W (w0.heap.size + 2) k s v) : o.wp Try.prog a W (wyPost w0 k s m 18 o a W) Q := by
  obtain ⟨b, h3⟩ := h3
  obtain ⟨hb, f, hM⟩ := h.2.2.2.2.2.2.2 b h3
  have h12' : a.eval (.tmp 12) = .map (some b) := h12.trans h3
  have h14' : a.eval (.tmp 14) = .int .i64 k := h14
  have hz : (zeroValue 62).run Try.prog W = .ok (.agg #[.nilFunc, .nilFunc, .nilFunc]) W := by kernel_rfl
  have hl := (hM.look (t := 85) (e := 62) Try.underlying23 Try.underlying85 k hkw hz).2
  rw [hv b m f h3 hM] at hl
  refine wy_val (W' := W) (v := v) h hd (by decide) (by decide) (by decide) (Below.refl _ _) (by simp only [execOp, hop, h12', h14']; simp [hl, Result.andThen]) (fun e => ?_) (by decide)
  exact way_ev e hw
theorem wy_store {v : Value} (h : wyB w0 k s m a W) (hop : o.op = .store 62 (.tmp 2) (.tmp 15)) (hd : o.dst = none) (hv : evOf a 15 = v) (hw : WayR W (w0.heap.size + 2) k s v) : o.wp Try.prog a W (wyPost w0 k s m 19 o a W) Q := by
  obtain ⟨x, y, z, rfl, hx, hy, hz⟩ := hw.agg
  obtain ⟨g1, g2, g3, g4, g5, g6, ⟨cs, g7, g8⟩, g9⟩ := id h
  refine wp_store_row 62 (.tmp 2) (.tmp 15) hop (w0.heap.size + 1) #[x, y, z] g5 hv 62 cs g8 (by kernel_rfl) g7 (by simp [hx, hy, hz]) ?_
  rw [hd]
  refine ⟨⟨undef, by rw [hd]⟩, ?_, ⟨#[x, y, z], rfl, setRow_heap _ _ _ _ _ _ g8, way_row _ hw⟩, fun j hj _ => wyG_row h _ j hj⟩
  refine ⟨below_setRow g1 (Nat.le_succ _) _, g2, g3, g4, g5, (setRow_other _ _ _ _ (by omega)).trans g6, ⟨_, rfl, setRow_heap _ _ _ _ _ _ g8⟩, fun b hb => ?_⟩
  obtain ⟨e1, f, e2⟩ := g9 b hb
  exact ⟨e1, f, (e2.kept (setRow_other _ _ _ _ (by omega))).mono (Nat.le_succ _)⟩
end
set_option maxRecDepth 100000 in
set_option maxHeartbeats 4000000 in
theorem ways_calls (k s : Int) (hk : k = 1 ∨ k = 2 ∨ k = 4 ∨ k = 5 ∨ k = 6 ∨ k = 7) (w : World) :
    Calls Try.prog 21 #[.agg #[.int .i64 k, .int .i64 s]] w fun e w' => ∃ v, e = .returned v ∧ WayR w' w.heap.size k s v ∧ Below w.heap.size w w' := by
  go_enter Try.func21, Try.ntmps21
  go_upto_region 1 with fail
  refine region_inv (wyB w k s) wyU (wyG w.heap.size k s) (by kernel_rfl) (by kernel_rfl) (by kernel_rfl) (wyU_ok _ _ _) ?start ?step ?stop
  case start =>
    have hn := blk_new (w.alloc (Obj.cells #[Value.agg #[Value.int IntKind.i64 k, Value.int IntKind.i64 s]] 25)) (Obj.cells #[.nilFunc, .nilFunc, .nilFunc] 62)
    refine ⟨below_drew1 (below_alloc (below_alloc (Below.refl _ _) _) _), rfl, rfl, rfl, rfl, blk_drew (blk_alloc (blk_new _ _) _), ⟨#[.nilFunc, .nilFunc, .nilFunc], rfl, ?_⟩, fun b hb => ?_⟩
    · refine blk_drew ?_
      have := blk_new (w.alloc (Obj.cells #[Value.int IntKind.i64 k, Value.int IntKind.i64 s] 25)) (Obj.cells #[.nilFunc, .nilFunc, .nilFunc] 62)
      rw [World.size_alloc] at this
      exact this
    · cases hb
  case step =>
    intro m i o a W ho hm hB hG
    have hlt : i < 20 := (Array.getElem?_eq_some_iff.1 ho).1
    have hmx : m < maxLen := Nat.lt_trans (show m < 20 from hm) (by decide)
    suffices hh : o.wp Try.prog a W (wyPost w k s m i o a W) _ by
      refine Oper.wp_mono (fun a' w' h => ⟨h.1, h.2.1, h.2.2.1, fun j oj hoj hj hE hg => h.2.2.2 j hj (fun hi15 hj15 => ?_) hg⟩) hh
      subst hj15
      have hoj' := Option.some.inj hoj
      have hall' : (List.range 15).all (fun i => edgeB oj i) = true := by rw [← hoj']; kernel_rfl
      have hall := List.all_eq_true.1 hall' i (List.mem_range.2 hi15)
      rw [hE] at hall
      cases hall
    clear hm
    have e1 : a.tmps[1]?.getD undef = .pointer (some ⟨w.heap.size, 0, none⟩) := by have := hB.2.2.2.1; simpa [Act.eval, ptr] using this
    have e2 := hB.2.2.2.2.2.1
    have hi : i = 0 ∨ i = 1 ∨ i = 2 ∨ i = 3 ∨ i = 4 ∨ i = 5 ∨ i = 6 ∨ i = 7 ∨ i = 8 ∨ i = 9 ∨ i = 10 ∨ i = 11 ∨ i = 12 ∨ i = 13 ∨ i = 14 ∨ i = 15 ∨ i = 16 ∨ i = 17 ∨ i = 18 ∨ i = 19 := by omega
    rcases hi with rfl | rfl | rfl | rfl | rfl | rfl | rfl | rfl | rfl | rfl | rfl | rfl | rfl | rfl | rfl | rfl | rfl | rfl | rfl | rfl <;> obtain rfl := Option.some.inj ho
    · exact wy_made hB rfl rfl
    · exact wy_whole (d := 4) (kk := 1) hB rfl rfl (by decide) (by decide) (by decide) (by decide) (.inl rfl) (fun _ _ h => h)
    · exact wy_ins (d := 4) (kk := 1) hB rfl rfl (by decide) hmx (hG ⟨0, .data⟩ (by simp) rfl) (hG ⟨1, .data⟩ (by simp) rfl) (fun _ _ h => h) (fun h1 h2 h3 h4 h5 => wyG_put2 h1 h2 h3 h4 h5) (by decide)
    · exact wy_whole (d := 5) (kk := 2) hB rfl rfl (by decide) (by decide) (by decide) (by decide) (.inr (.inr (.inl rfl))) (fun _ _ h => h)
    · exact wy_ins (d := 5) (kk := 2) hB rfl rfl (by decide) hmx (hG ⟨0, .data⟩ (by simp) rfl) (hG ⟨3, .data⟩ (by simp) rfl) (fun _ _ h => h) (fun h1 h2 h3 h4 h5 => wyG_put4 h1 h2 h3 h4 h5) (by decide)
    · exact wy_whole (d := 6) (kk := 4) hB rfl rfl (by decide) (by decide) (by decide) (by decide) (.inr (.inl rfl)) (fun _ _ h => h)
    · exact wy_ins (d := 6) (kk := 4) hB rfl rfl (by decide) hmx (hG ⟨0, .data⟩ (by simp) rfl) (hG ⟨5, .data⟩ (by simp) rfl) (fun _ _ h => h) (fun h1 h2 h3 h4 h5 => wyG_put6 h1 h2 h3 h4 h5) (by decide)
    · exact wy_whole (d := 7) (kk := 5) hB rfl rfl (by decide) (by decide) (by decide) (by decide) (.inr (.inr (.inr rfl))) (fun _ _ h => h)
    · exact wy_ins (d := 7) (kk := 5) hB rfl rfl (by decide) hmx (hG ⟨0, .data⟩ (by simp) rfl) (hG ⟨7, .data⟩ (by simp) rfl) (fun _ _ h => h) (fun h1 h2 h3 h4 h5 => wyG_put8 h1 h2 h3 h4 h5) (by decide)
    · exact wy_long (d := 8) hB rfl rfl (by decide) (by decide) (by decide) (by decide) (fun _ _ h => h)
    · exact wy_ins (d := 8) (kk := 6) hB rfl rfl (by decide) hmx (hG ⟨0, .data⟩ (by simp) rfl) (hG ⟨9, .data⟩ (by simp) rfl) (fun _ _ h => h) (fun h1 h2 h3 h4 h5 => wyG_put10 h1 h2 h3 h4 h5) (by decide)
    · exact wy_val (v := .pointer (some ⟨w.heap.size, 1, none⟩)) (d := 9) hB rfl (by decide) (by decide) (by decide) (Below.refl _ _) (by simp [execOp, go_sem, e1]) (fun e => e) (by decide)
    · exact wy_val (v := .int .i64 s) (d := 10) hB rfl (by decide) (by decide) (by decide) (Below.refl _ _) (by have e3 : a.tmps[9]?.getD undef = .pointer (some ⟨w.heap.size, 1, none⟩) := (by have := hG ⟨11, .data⟩ (by simp) rfl; simpa [evOf, Act.eval, wyG] using this); have e4 := (blk_cell e2 1).trans rfl; simp [execOp, go_sem, e3, e4]) (fun e => e) (by decide)
    · exact wy_fixed (d := 11) hB rfl rfl (by decide) (by decide) (by decide) (by decide) (hG ⟨12, .data⟩ (by simp) rfl) (fun _ _ h => h)
    · exact wy_ins (d := 11) (kk := 7) hB rfl rfl (by decide) hmx (hG ⟨0, .data⟩ (by simp) rfl) (hG ⟨13, .data⟩ (by simp) rfl) (fun _ _ h => h) (fun h1 h2 h3 h4 h5 => wyG_put14 h1 h2 h3 h4 h5) (by decide)
    · have h0 := hG ⟨0, .data⟩ (by simp) rfl
      exact wy_val (v := a.eval (.tmp 3)) (W' := W) (d := 12) hB rfl (by decide) (by decide) (by decide) (Below.refl _ _) (by simp [execOp]) (fun e => ⟨e.trans (put_ne (by decide)).symm, insG_ev (ev_ne (by decide)) (ev_ne (by decide)) (hG ⟨2, .data⟩ (by simp) rfl), insG_ev (ev_ne (by decide)) (ev_ne (by decide)) (hG ⟨4, .data⟩ (by simp) rfl), insG_ev (ev_ne (by decide)) (ev_ne (by decide)) (hG ⟨6, .data⟩ (by simp) rfl),
        insG_ev (ev_ne (by decide)) (ev_ne (by decide)) (hG ⟨8, .data⟩ (by simp) rfl), insG_ev (ev_ne (by decide)) (ev_ne (by decide)) (hG ⟨10, .data⟩ (by simp) rfl), insG_ev (ev_ne (by decide)) (ev_ne (by decide)) (hG ⟨14, .data⟩ (by simp) rfl), h0.elim fun b hb => ⟨b, (ev_ne (by decide)).trans hb⟩⟩) (by decide)
    · exact wy_val (v := .pointer (some ⟨w.heap.size, 0, none⟩)) (d := 13) hB rfl (by decide) (by decide) (by decide) (Below.refl _ _) (by simp [execOp, go_sem, e1]) (fun e => e) (by decide)
    · exact wy_val (v := .int .i64 k) (d := 14) hB rfl (by decide) (by decide) (by decide) (Below.refl _ _) (by have e3 : a.tmps[13]?.getD undef = .pointer (some ⟨w.heap.size, 0, none⟩) := (by have := hG ⟨16, .data⟩ (by simp) rfl; simpa [evOf, Act.eval, wyG] using this); have e4 := (blk_cell e2 0).trans rfl; simp [execOp, go_sem, e3, e4]) (fun e => e) (by decide)
    · obtain ⟨h12, g1, g2, g3, g4, g5, g6, h0⟩ := hG ⟨15, .data⟩ (by simp) rfl
      have h14 := hG ⟨17, .data⟩ (by simp) rfl
      rcases hk with rfl | rfl | rfl | rfl | rfl | rfl
      · exact wy_look hB rfl rfl (by decide) h0 h12 h14 (fun b n f => g1.1 b n f) g1.2
      · exact wy_look hB rfl rfl (by decide) h0 h12 h14 (fun b n f => g2.1 b n f) g2.2
      · exact wy_look hB rfl rfl (by decide) h0 h12 h14 (fun b n f => g3.1 b n f) g3.2
      · exact wy_look hB rfl rfl (by decide) h0 h12 h14 (fun b n f => g4.1 b n f) g4.2
      · exact wy_look hB rfl rfl (by decide) h0 h12 h14 (fun b n f => g5.1 b n f) g5.2
      · exact wy_look hB rfl rfl (by decide) h0 h12 h14 (fun b n f => g6.1 b n f) g6.2
    · exact wy_store hB rfl rfl rfl (hG ⟨18, .data⟩ (by simp) rfl)
  case stop =>
    intro m a W hB hG
    rename_i Q' K hK
    obtain ⟨cs, h1, h2, h3⟩ := hG 19 (by decide)
    refine hK a W ?_
    go_wp2
    refine bodyPost_ret (results_cell_row rfl _ _ (w.heap.size + 1) 62 cs (0, 0) _ (by have := hB.2.2.2.2.1; simpa [Act.eval, ptr] using this) h2 Try.underlying62 rfl (by rw [h1]; kernel_rfl)) hB.2.1 ?_
    exact ⟨_, rfl, h3.mono (by omega), hB.1⟩
end Go.Proofs.Ytcklkngljapecaa.X
end

section
namespace Go.Proofs.Ytcklkngljapecaa.X
open Go.RowKit Go.Proofs.YtcklkngljapecaaW.PrintWords Go.Proofs.YtcklkngljapecaaW.PrintLast Go.Proofs.YtcklkngljapecaaW.PrintMore
attribute [local go_sem] max2_int min2_int max_two min_two max_three min_three max_four min_four
set_option linter.unusedVariables false
set_option linter.unusedSimpArgs false
theorem dFixed_calls (s : ByteArray) (w : World) : Calls Try.prog 60 #[.string s] w fun e w' => e = .returned (.agg #[.int .i64 7, .int .i64 0, .string s]) ∧ Below w.heap.size w w' := by
 have hu30 := Try.underlying30
 go_enter Try.func60, Try.ntmps60
 go_wp2
 refine bodyPost_ret (results_cell_row rfl _ _ w.heap.size 30 _ (0, 0) _ rfl (blk_new w _) Try.underlying30 rfl (by kernel_rfl)) rfl ?_
 exact ⟨rfl, below_alloc (Below.refl _ _) _⟩
theorem dBytes_calls (s : ByteArray) (w : World) : Calls Try.prog 56 #[.string s] w fun e w' => e = .returned (.agg #[.int .i64 6, .int .i64 0, .string s]) ∧ Below w.heap.size w w' := by
 have hu30 := Try.underlying30
 go_enter Try.func56, Try.ntmps56
 go_wp2
 refine bodyPost_ret (results_cell_row rfl _ _ w.heap.size 30 _ (0, 0) _ rfl (blk_new w _) Try.underlying30 rfl (by kernel_rfl)) rfl ?_
 exact ⟨rfl, below_alloc (Below.refl _ _) _⟩
def rdFixed (s : Int) (l : List Int) : Option (S30 × Int) := if 0 ≤ s then some (if (l.length : Int) < s then (z30, 0) else (⟨7, 0, strOfNums (l.take s.toNat)⟩, s)) else none
set_option maxRecDepth 100000 in
set_option maxHeartbeats 4000000 in
theorem rdFixed_calls (A0 : Option Addr) (c0 : Nat) (l0 : List Int) (s : Int) (g : Nat) (x : S30) (n : Int) (w : World) (hr0 : Kd.C (Kd.int .u8) w A0 l0.length l0) (hc0 : l0.length ≤ c0) (hg : w.heap[g]? = some (.cells #[.int .i64 s] 3 (0, 0))) (h : rdFixed s l0 = some (x, n)) :
  Calls Try.prog 59 #[.slice A0 l0.length c0, ptr g] w fun e w' => e = .returned (.tuple #[.agg #[.int .i64 x.f0, .int .i64 x.f1, .string x.f2], .int .i64 n]) ∧ Below w.heap.size w w' := by
 have hu30 := Try.underlying30
 unfold rdFixed at h
 by_cases h0 : 0 ≤ s
 ·rw [if_pos h0] at h
  have h := Option.some.inj h
  have hc := (blk_cell hg 0).trans rfl
  have hlt := blk_lt hg
  unfold ptr
  by_cases c : (l0.length : Int) < s
  ·rw [if_pos c] at h
   have d1 : decide ((l0.length : Int) < s) = true := decide_eq_true c
   obtain ⟨rfl, rfl⟩ : z30 = x ∧ (0 : Int) = n := by simpa using h
   go_enter Try.func59, Try.ntmps59
   go_wp2
   refine bodyPost_ret (results_ct rfl _ _ w.heap.size 30 _ (0, 0) _ rfl (blk_new w _) Try.underlying30 rfl (by kernel_rfl)) rfl ?_
   exact ⟨rfl, below_alloc (Below.refl _ _) _⟩
  ·rw [if_neg c] at h
   have d1 : decide ((l0.length : Int) < s) = false := decide_eq_false c
   obtain ⟨rfl, rfl⟩ : (⟨7, 0, strOfNums (l0.take s.toNat)⟩ : S30) = x ∧ s = n := by simpa using h
   obtain ⟨i0, hi0, _, hsz, _⟩ := info_parts info5
   obtain ⟨hcut, hA, hC⟩ := print_take_of (P := Try.prog) (Value.int .u8) 0 22 5 .i64 Try.underlying22 hi0 hsz A0 c0 l0 s h0 (by omega) hc0
   have hR := Aside0.mk (Kd.C_of_reads (h1 := fun _ => rfl) (hA _ (Kd.reads_of_C hr0)))
   have hcv : ∀ W, Below w.heap.size w W → (convert 22 9 (.slice A0 s.toNat c0)).run Try.prog W = .ok (.string (strOfNums (l0.take s.toNat))) W := fun W hW => by
    have hlen : (l0.take s.toNat).length = s.toNat := by rw [List.length_take]; omega
    have := Kd.C_string (P := Try.prog) (c := c0) Try.underlying22 Try.underlying5 Try.underlying9 (Kd.C_below hR.out hW)
    rw [hlen] at this
    exact this
   have hcl0 : ∀ W, Below w.heap.size w W → W.cell? ⟨g, 0, none⟩ = some (.int .i64 s) := fun W hW => (hW.cell hlt).trans hc
   have hB0 := Below.refl w.heap.size w
   rw [show (l0.take s.toNat).length = s.toNat by rw [List.length_take]; omega] at hcut
   clear hr0 hA hg hC
   go_enter Try.func59, Try.ntmps59
   go_upto_region 3 with fail
   have hz := blk_new w (Obj.cells #[Value.int IntKind.i64 0, Value.int IntKind.i64 0, Value.string { data := #[] }] 30)
   go_region_held3 (fun w' => w'.cell? ⟨g, 0, none⟩ = some (.int .i64 s) ∧ (convert 22 9 (.slice A0 s.toNat c0)).run Try.prog w' = .ok (.string (strOfNums (l0.take s.toNat))) w') (first | (refine ⟨hcl0 _ ?_, hcv _ ?_⟩ <;> repeat (first | exact hB0 | exact hB1 | apply below_drew1 | apply below_alloc | (refine below_set ?_ (Nat.le_refl _)))))
    (first | (go_at_call 60; refine (dFixed_calls _ _).mono ?_; rintro e W1 ⟨rfl, hb⟩; have hB1 : Below w.heap.size w W1 := below_step (show Below w.heap.size w _ by repeat (first | exact hB0 | apply below_drew1 | apply below_alloc)) hb; have hz1 := blk_below (blk_drew hz) hb; have q0 := (blk_cell hz1 0).trans rfl; have q1 := (blk_cell hz1 1).trans rfl; have q2 := (blk_cell hz1 2).trans rfl; have f0 := blk_frozen hz1 0; have f1 := blk_frozen hz1 1; have f2 := blk_frozen hz1 2))
   all_goals go_wp2
   all_goals refine bodyPost_ret (results_ct rfl _ _ w.heap.size 30 _ (0, 0) _ rfl (blk_set (blk_set (blk_set hz1 0 _) 1 _) 2 _) Try.underlying30 rfl (by kernel_rfl)) rfl ?_
   all_goals exact ⟨rfl, below_set (below_set (below_set hB1 (Nat.le_refl _)) (Nat.le_refl _)) (Nat.le_refl _)⟩
 ·rw [if_neg h0] at h; cases h
def rdWhole (F : Nat) (k : Int) (l : List Int) : Option (S30 × Int) := (bits_ReadLittle.f F l 0 (wide k)).bind fun p => some (if p.2 = 0 then (⟨k, if k = 1 then wrap64 (wrap32 (p.1 % 4294967296)) else wrap64 p.1, ⟨#[]⟩⟩, wide k) else (z30, 0))
theorem two_blocks {w : World} {q g : Nat} {Z Y : Obj} {v : Value} (hg : g < w.heap.size) (hc : w.cell? ⟨g, 0, none⟩ = some v) : ∃ W, W = ((w.alloc Z).drewN q).alloc Y ∧ W.heap[w.heap.size]? = some Z ∧ W.heap[w.heap.size + 1]? = some Y ∧ Below w.heap.size w W ∧ W.cell? ⟨g, 0, none⟩ = some v := by
 have hb : Below w.heap.size w (((w.alloc Z).drewN q).alloc Y) := below_alloc (pw_below_drewN (below_alloc (Below.refl _ _) _) _) _
 refine ⟨_, rfl, blk_alloc (blk_drewN (blk_new _ _) _) _, ?_, hb, (hb.cell hg).trans hc⟩
 have := blk_new ((w.alloc Z).drewN q) Y
 rwa [show ((w.alloc Z).drewN q).heap.size = w.heap.size + 1 by simp] at this
set_option maxRecDepth 100000 in
set_option maxHeartbeats 4000000 in
theorem rdWhole_calls (F : Nat) (A0 : Option Addr) (c0 : Nat) (l0 : List Int) (k : Int) (gb gk : Nat) (x : S30) (n : Int) (w : World) (hr0 : Kd.C (Kd.int .u8) w A0 l0.length l0) (hc0 : l0.length ≤ c0) (hgb : w.heap[gb]? = some (.cells #[.int .i64 (wide k)] 3 (0, 0))) (hgk : w.heap[gk]? = some (.cells #[.int .i64 k] 23 (0, 0))) (h : rdWhole F k l0 = some (x, n)) :
  Calls Try.prog 51 #[.slice A0 l0.length c0, ptr gb, ptr gk] w fun e w' => e = .returned (.tuple #[.agg #[.int .i64 x.f0, .int .i64 x.f1, .string x.f2], .int .i64 n]) ∧ Below w.heap.size w w' := by
 have hu30 := Try.underlying30
 unfold rdWhole at h
 obtain ⟨⟨m, e⟩, hp, h⟩ := Option.bind_eq_some_iff.1 h
 have h := Option.some.inj h
 have hcb := (blk_cell hgb 0).trans rfl
 have hck := (blk_cell hgk 0).trans rfl
 have hlb := blk_lt hgb
 have hlk := blk_lt hgk
 have HR := Aside0.mk hr0
 have HP := Aside0.mk hp
 have HZ := Aside0.mk (blk_new w (Obj.cells #[Value.int IntKind.i64 0, Value.int IntKind.i64 0, Value.string { data := #[] }] 30))
 have hnb : gb ≠ w.heap.size := by omega
 have hnb2 : w.heap.size ≠ gb := by omega
 have HB0 := Aside0.mk (Below.refl w.heap.size w)
 clear hr0 hp hgb hgk
 unfold ptr
 by_cases c : e = 0
 ·subst c
  dsimp only at h
  rw [if_pos rfl] at h
  by_cases c1 : k = 1
  ·subst c1
   rw [if_pos rfl] at h
   obtain ⟨rfl, rfl⟩ : (⟨1, wrap64 (wrap32 (m % 4294967296)), ⟨#[]⟩⟩ : S30) = x ∧ wide 1 = n := by simpa using h
   go_enter Try.func51, Try.ntmps51
   go_wp2_with fail
   refine (bits_ReadLittle.calls F A0 c0 l0 0 (wide 1) m 0 _ (Kd.C_alloc HR.out _) hc0 HP.out).mono ?_
   rintro e W1 ⟨rfl, q, rfl⟩
   go_wp2
   obtain ⟨W2, hW2, z1, z2, HB2, z3⟩ := two_blocks (q := q) (Z := Obj.cells #[Value.int IntKind.i64 0, Value.int IntKind.i64 0, Value.string { data := #[] }] 30) (Y := Obj.cells #[Value.int IntKind.i64 1, Value.int IntKind.i64 (wrap64 (wrap32 (m % 4294967296))), Value.string { data := #[] }] 30) hlb hcb
   rw [← hW2]
   clear hW2
   have q0 := (blk_cell z1 0).trans rfl
   have q1 := (blk_cell z1 1).trans rfl
   have q2 := (blk_cell z1 2).trans rfl
   have f0 := blk_frozen z1 0
   have f1 := blk_frozen z1 1
   have f2 := blk_frozen z1 2
   have y0 := (blk_cell z2 0).trans rfl
   have y1 := (blk_cell z2 1).trans rfl
   have y2 := (blk_cell z2 2).trans rfl
   go_region_held3 (fun w' => w'.cell? ⟨w.heap.size + 1, 0, none⟩ = some (.int .i64 1) ∧ w'.cell? ⟨w.heap.size + 1, 1, none⟩ = some (.int .i64 (wrap64 (wrap32 (m % 4294967296)))) ∧ w'.cell? ⟨w.heap.size + 1, 2, none⟩ = some (.string { data := #[] }) ∧ w'.cell? ⟨gb, 0, none⟩ = some (.int .i64 (wide 1))) (go_keep)
    (fail)
   all_goals go_wp2
   all_goals refine bodyPost_ret (results_ct rfl _ _ w.heap.size 30 _ (0, 0) _ rfl (blk_set (blk_set (blk_set z1 0 _) 1 _) 2 _) Try.underlying30 rfl (by kernel_rfl)) rfl ?_
   all_goals exact ⟨rfl, below_drew1 (below_set (below_set (below_set HB2 (Nat.le_refl _)) (Nat.le_refl _)) (Nat.le_refl _))⟩
  ·have d1 : (k == 1) = false := beq_eq_false_iff_ne.2 c1
   rw [if_neg c1] at h
   obtain ⟨rfl, rfl⟩ : (⟨k, wrap64 m, ⟨#[]⟩⟩ : S30) = x ∧ wide k = n := by simpa using h
   go_enter Try.func51, Try.ntmps51
   go_wp2_with fail
   refine (bits_ReadLittle.calls F A0 c0 l0 0 (wide k) m 0 _ (Kd.C_alloc HR.out _) hc0 HP.out).mono ?_
   rintro e W1 ⟨rfl, q, rfl⟩
   go_wp2
   obtain ⟨W2, hW2, z1, z2, HB2, z3⟩ := two_blocks (q := q) (Z := Obj.cells #[Value.int IntKind.i64 0, Value.int IntKind.i64 0, Value.string { data := #[] }] 30) (Y := Obj.cells #[Value.int IntKind.i64 k, Value.int IntKind.i64 (wrap64 m), Value.string { data := #[] }] 30) hlb hcb
   rw [← hW2]
   clear hW2
   have q0 := (blk_cell z1 0).trans rfl
   have q1 := (blk_cell z1 1).trans rfl
   have q2 := (blk_cell z1 2).trans rfl
   have f0 := blk_frozen z1 0
   have f1 := blk_frozen z1 1
   have f2 := blk_frozen z1 2
   have y0 := (blk_cell z2 0).trans rfl
   have y1 := (blk_cell z2 1).trans rfl
   have y2 := (blk_cell z2 2).trans rfl
   go_region_held3 (fun w' => w'.cell? ⟨w.heap.size + 1, 0, none⟩ = some (.int .i64 k) ∧ w'.cell? ⟨w.heap.size + 1, 1, none⟩ = some (.int .i64 (wrap64 m)) ∧ w'.cell? ⟨w.heap.size + 1, 2, none⟩ = some (.string { data := #[] }) ∧ w'.cell? ⟨gb, 0, none⟩ = some (.int .i64 (wide k))) (go_keep)
    (fail)
   all_goals go_wp2
   all_goals refine bodyPost_ret (results_ct rfl _ _ w.heap.size 30 _ (0, 0) _ rfl (blk_set (blk_set (blk_set z1 0 _) 1 _) 2 _) Try.underlying30 rfl (by kernel_rfl)) rfl ?_
   all_goals exact ⟨rfl, below_drew1 (below_set (below_set (below_set HB2 (Nat.le_refl _)) (Nat.le_refl _)) (Nat.le_refl _))⟩
 ·have d1 : (e != 0) = true := by simp [bne, c]
  rw [if_neg c] at h
  obtain ⟨rfl, rfl⟩ : z30 = x ∧ (0 : Int) = n := by simpa using h
  go_enter Try.func51, Try.ntmps51
  go_wp2_with fail
  refine (bits_ReadLittle.calls F A0 c0 l0 0 (wide k) m e _ (Kd.C_alloc HR.out _) hc0 HP.out).mono ?_
  rintro e' W1 ⟨rfl, q, rfl⟩
  go_wp2
  refine bodyPost_ret (results_ct rfl _ _ w.heap.size 30 _ (0, 0) _ rfl (blk_set (blk_set (blk_set (blk_drewN HZ.out _) 0 _) 1 _) 2 _) Try.underlying30 rfl (by kernel_rfl)) rfl ?_
  exact ⟨rfl, below_set (below_set (below_set (pw_below_drewN (below_alloc HB0.out _) _) (Nat.le_refl _)) (Nat.le_refl _)) (Nat.le_refl _)⟩
def rdLong (F : Nat) (l : List Int) : Option (S30 × Int) := (bits_ReadLittle.f F l 0 4).bind fun p => if p.2 = 0 then (if 4 ≤ l.length ∧ l.length < 4398046511104 ∧ 0 ≤ p.1 then some (if p.1 > (l.length : Int) - 4 then (z30, 0) else (⟨6, 0, strOfNums ((l.take (4 + p.1).toNat).drop 4)⟩, 4 + p.1)) else none) else some (z30, 0)
set_option maxRecDepth 100000 in
set_option maxHeartbeats 4000000 in
theorem rdLong_calls (F : Nat) (A0 : Option Addr) (c0 : Nat) (l0 : List Int) (x : S30) (n : Int) (w : World) (hr0 : Kd.C (Kd.int .u8) w A0 l0.length l0) (hc0 : l0.length ≤ c0) (h : rdLong F l0 = some (x, n)) :
  Calls Try.prog 55 #[.slice A0 l0.length c0] w fun e w' => e = .returned (.tuple #[.agg #[.int .i64 x.f0, .int .i64 x.f1, .string x.f2], .int .i64 n]) ∧ Below w.heap.size w w' := by
 have hu30 := Try.underlying30
 unfold rdLong at h
 obtain ⟨⟨m, e⟩, hp, h⟩ := Option.bind_eq_some_iff.1 h
 have HR := Aside0.mk hr0
 have HP := Aside0.mk hp
 have HZ := Aside0.mk (blk_new w (Obj.cells #[Value.int IntKind.i64 0, Value.int IntKind.i64 0, Value.string { data := #[] }] 30))
 have HB0 := Aside0.mk (Below.refl w.heap.size w)
 clear hr0 hp
 by_cases c : e = 0
 ·subst c
  dsimp only at h
  rw [if_pos rfl] at h
  by_cases c1 : 4 ≤ l0.length ∧ l0.length < 4398046511104 ∧ 0 ≤ m
  ·rw [if_pos c1] at h
   have h := Option.some.inj h
   obtain ⟨b1, b2, b3⟩ := c1
   have e1 : wrap64 ((l0.length : Int) - 4) = (l0.length : Int) - 4 := by unfold wrap64; omega
   have e2 : IntKind.u64.wrap ((l0.length : Int) - 4) = (l0.length : Int) - 4 := by unfold IntKind.wrap; simp [IntKind.bits, IntKind.signed]; omega
   by_cases c2 : m > (l0.length : Int) - 4
   ·rw [if_pos c2] at h
    have d2 : decide (m > (l0.length : Int) - 4) = true := decide_eq_true c2
    obtain ⟨rfl, rfl⟩ : z30 = x ∧ (0 : Int) = n := by simpa using h
    go_enter Try.func55, Try.ntmps55
    go_wp2_with fail
    refine (bits_ReadLittle.calls F A0 c0 l0 0 4 m 0 _ (Kd.C_alloc HR.out _) hc0 HP.out).mono ?_
    rintro e' W1 ⟨rfl, q, rfl⟩
    go_wp2
    refine bodyPost_ret (results_ct rfl _ _ w.heap.size 30 _ (0, 0) _ rfl (blk_set (blk_set (blk_set (blk_drewN HZ.out _) 0 _) 1 _) 2 _) Try.underlying30 rfl (by kernel_rfl)) rfl ?_
    exact ⟨rfl, below_set (below_set (below_set (pw_below_drewN (below_alloc HB0.out _) _) (Nat.le_refl _)) (Nat.le_refl _)) (Nat.le_refl _)⟩
   ·rw [if_neg c2] at h
    have d2 : decide (m > (l0.length : Int) - 4) = false := decide_eq_false c2
    have e3 : wrap64 m = m := by unfold wrap64; omega
    have e4 : wrap64 (4 + m) = 4 + m := by unfold wrap64; omega
    have e5 : IntKind.u64.wrap (4 + m) = 4 + m := by unfold IntKind.wrap; simp [IntKind.bits, IntKind.signed]; omega
    obtain ⟨rfl, rfl⟩ : (⟨6, 0, strOfNums ((l0.take (4 + m).toNat).drop 4)⟩ : S30) = x ∧ 4 + m = n := by simpa using h
    obtain ⟨i0, hi0, _, hsz, _⟩ := info_parts info5
    obtain ⟨A1, hcut, hA, hC⟩ := print_mid_of (P := Try.prog) (Value.int .u8) 0 22 5 .i64 .u64 Try.underlying22 hi0 hsz A0 c0 l0 4 (4 + m) (by omega) (by omega) (by omega) hc0
    have hL : ((l0.take (4 + m).toNat).drop (4 : Int).toNat).length = m.toNat := by rw [List.length_drop, List.length_take]; omega
    have hR := Aside0.mk (Kd.C_of_reads (h1 := fun _ => rfl) (hA _ (Kd.reads_of_C HR.out)))
    go_enter Try.func55, Try.ntmps55
    go_wp2_with fail
    refine (bits_ReadLittle.calls F A0 c0 l0 0 4 m 0 _ (Kd.C_alloc HR.out _) hc0 HP.out).mono ?_
    rintro e' W1 ⟨rfl, q, rfl⟩
    have hcv := Kd.C_string (P := Try.prog) (c := c0 - (4 : Int).toNat) Try.underlying22 Try.underlying5 Try.underlying9 (Kd.C_drewN (Kd.C_alloc hR.out (Obj.cells #[Value.int IntKind.i64 0, Value.int IntKind.i64 0, Value.string { data := #[] }] 30)) q)
    rw [hL, show (4 : Int).toNat = 4 from rfl] at hcv hcut
    go_wp2_with fail
    refine (dBytes_calls _ _).mono ?_
    rintro e2 W2 ⟨rfl, hb⟩
    have hz1 := blk_below (blk_drewN HZ.out q) hb
    have HB1 := Aside0.mk (below_step (pw_below_drewN (below_alloc HB0.out _) q) hb)
    have q0 := (blk_cell hz1 0).trans rfl
    have q1 := (blk_cell hz1 1).trans rfl
    have q2 := (blk_cell hz1 2).trans rfl
    have f0 := blk_frozen hz1 0
    have f1 := blk_frozen hz1 1
    have f2 := blk_frozen hz1 2
    clear hb
    go_wp2
    refine bodyPost_ret (results_ct rfl _ _ w.heap.size 30 _ (0, 0) _ rfl (blk_set (blk_set (blk_set hz1 0 _) 1 _) 2 _) Try.underlying30 rfl (by kernel_rfl)) rfl ?_
    exact ⟨rfl, below_set (below_set (below_set HB1.out (Nat.le_refl _)) (Nat.le_refl _)) (Nat.le_refl _)⟩
  ·rw [if_neg c1] at h; cases h
 ·have d1 : (e != 0) = true := by simp [bne, c]
  dsimp only at h
  rw [if_neg c] at h
  obtain ⟨rfl, rfl⟩ : z30 = x ∧ (0 : Int) = n := by simpa using h
  go_enter Try.func55, Try.ntmps55
  go_wp2_with fail
  refine (bits_ReadLittle.calls F A0 c0 l0 0 4 m e _ (Kd.C_alloc HR.out _) hc0 HP.out).mono ?_
  rintro e' W1 ⟨rfl, q, rfl⟩
  go_wp2
  refine bodyPost_ret (results_ct rfl _ _ w.heap.size 30 _ (0, 0) _ rfl (blk_set (blk_set (blk_set (blk_drewN HZ.out _) 0 _) 1 _) 2 _) Try.underlying30 rfl (by kernel_rfl)) rfl ?_
  exact ⟨rfl, below_set (below_set (below_set (pw_below_drewN (below_alloc HB0.out _) _) (Nat.le_refl _)) (Nat.le_refl _)) (Nat.le_refl _)⟩
def rdBy (F : Nat) (k s : Int) (l : List Int) : Option (S30 × Int) := if k = 6 then rdLong F l else if k = 7 then rdFixed s l else rdWhole F k l
def rdGo (F : Nat) (k s : Int) (b : List Int) : Nat → Int → List S30 → Option (List S30 × Int)
 | 0, at_, acc => some (if at_ < (b.length : Int) then ([], 7) else (acc, 0))
 | n + 1, at_, acc => if 0 ≤ at_ ∧ at_ ≤ (b.length : Int) then (rdBy F k s (b.drop at_.toNat)).bind fun p => if p.2 = 0 then some ([], 6) else if acc.length < 4398046511104 then rdGo F k s b n (wrap64 (at_ + p.2)) (acc ++ [p.1]) else none else none
def plain_Read.f (F : Nat) (l0 : List Int) (a1_0 a1_1 a2 : Int) : Option (List S30 × Int) := (datum_Check.f a1_0 a1_1).bind fun e => if e ≠ 0 then some ([], 2) else if a2 < 0 then some ([], 2) else if (l0.length : Int) > 1048576 then some ([], 3) else if a2 > 65536 then some ([], 3) else if a1_0 = 0 then plain_truths.f F l0 a2
 else if a1_0 = 1 ∨ a1_0 = 2 ∨ a1_0 = 4 ∨ a1_0 = 5 ∨ a1_0 = 6 ∨ a1_0 = 7 then rdGo F a1_0 a1_1 l0 a2.toNat 0 [] else none
theorem rdBy_mono (k s : Int) (l : List Int) (F : Nat) : LeO (rdBy F k s l) (rdBy (F + 1) k s l) := by
 unfold rdBy rdLong rdWhole
 refine LeO.ite (LeO.bind (bits_ReadLittle.mono _ _ _ _) (fun _ => LeO.refl _)) (LeO.ite (LeO.refl _) (LeO.bind (bits_ReadLittle.mono _ _ _ _) (fun _ => LeO.refl _)))
theorem rdGo_mono (k s : Int) (b : List Int) (F : Nat) : ∀ (n : Nat) (at_ : Int) (acc : List S30), LeO (rdGo F k s b n at_ acc) (rdGo (F + 1) k s b n at_ acc)
 | 0, _, _ => LeO.refl _
 | n + 1, at_, acc => by
  unfold rdGo
  exact LeO.ite (LeO.bind (rdBy_mono _ _ _ _) (fun p => LeO.ite (LeO.refl _) (LeO.ite (rdGo_mono k s b F n _ _) (LeO.refl _)))) (LeO.refl _)
theorem plain_Read.mono : ∀ l0 a1_0 a1_1 a2 k, LeO (plain_Read.f k l0 a1_0 a1_1 a2) (plain_Read.f (k + 1) l0 a1_0 a1_1 a2) := by
 intro l0 a b c k
 unfold plain_Read.f
 refine LeO.bind (LeO.refl _) (fun _ => ?_)
 repeat' first
  | exact LeO.refl _
  | exact plain_truths.mono _ _ _
  | exact rdGo_mono _ _ _ _ _ _ _
  | refine LeO.ite ?_ ?_
theorem way_world {W1 : World} {t : TypeId} (cs : Array Value) : ∃ W0, W0 = W1.alloc (.cells cs t) ∧ W0.heap[W1.heap.size]? = some (.cells cs t (0, 0)) ∧ Below W1.heap.size W1 W0 := ⟨_, rfl, blk_new _ _, below_alloc (Below.refl _ _) _⟩
set_option maxRecDepth 100000 in
set_option maxHeartbeats 16000000 in
theorem rd_W (F : Nat) (A0 : Option Addr) (c0 : Nat) (l0 : List Int) (k s : Int) (cnt : Nat) (r1 : List S30) (r2 : Int) (w : World) (hr0 : Kd.C (Kd.int .u8) w A0 l0.length l0) (hc0 : l0.length ≤ c0) (hl : (l0.length : Int) ≤ 1048576) (hcnt : cnt ≤ 65536) (hchk : datum_Check.f k s = some 0) (hkind : k = 1 ∨ k = 4 ∨ k = 2 ∨ k = 5) (h : rdGo F k s l0 cnt 0 [] = some (r1, r2)) :
  Calls Try.prog 10 #[.slice A0 l0.length c0, .agg #[.int .i64 k, .int .i64 s], .int .i64 (cnt : Int)] w fun e w' => ∃ v0_ : Value, e = .returned (.tuple #[v0_, .int .i64 r2]) ∧ Kd.R k30 30 w' w.heap.size (fun _ => True) v0_ r1 ∧ Below w.heap.size w w' := by
 have hu25 := Try.underlying25
 have hu30 := Try.underlying30
 have hu62 := Try.underlying62
 have d0 : (k == 0) = false := beq_eq_false_iff_ne.2 (by rcases hkind with rfl | rfl | rfl | rfl <;> decide)
 have d1 : decide ((cnt : Int) < 0) = false := decide_eq_false (by omega)
 have d2 : decide ((l0.length : Int) > 1048576) = false := decide_eq_false (by omega)
 have d3 : decide ((cnt : Int) > 65536) = false := decide_eq_false (by omega)
 have H := Aside0.mk h
 have HR := Aside0.mk hr0
 have HCHK := fun W => datum_Check.calls k s 0 W hchk
 have HWAY := fun W => ways_calls k s (by rcases hkind with h | h | h | h <;> simp [h]) W
 have HB0 := Aside0.mk (Below.refl w.heap.size w)
 have HBX := Aside0.mk (blk_new w (Obj.cells #[Value.int IntKind.i64 k, Value.int IntKind.i64 s] 25))
 have HK := Aside0.mk hkind
 clear h hr0 hchk hkind
 go_enter Try.func10, Try.ntmps10
 go_wp2_with fail
 refine (HCHK _).mono ?_
 rintro e W1 ⟨rfl, hb⟩
 have x0 : W1.cell? ⟨w.heap.size, 0, none⟩ = some (.int .i64 k) := (hb.cell (by simp)).trans (by simp)
 have x1 : W1.cell? ⟨w.heap.size, 1, none⟩ = some (.int .i64 s) := (hb.cell (by simp)).trans (by simp)
 have HB1 := Aside0.mk (below_step (below_alloc HB0.out _) hb)
 clear hb
 go_wp2_with fail
 refine (HWAY _).mono ?_
 rintro e W2 ⟨v, rfl, hw, hb⟩
 have x2 : W2.cell? ⟨w.heap.size, 0, none⟩ = some (.int .i64 k) := (hb.cell (World.block_lt_of_cell? _ _ x0)).trans x0
 have x3 : W2.cell? ⟨w.heap.size, 1, none⟩ = some (.int .i64 s) := (hb.cell (World.block_lt_of_cell? _ _ x1)).trans x1
 have HB2 := Aside0.mk (below_step HB1.out hb)
 clear hb x0 x1 HB1
 obtain ⟨gb, gk, rfl, G1, G2⟩ : ∃ gb gk, v = wayW gb gk ∧ Aside0 (W2.heap[gb]? = some (.cells #[.int .i64 (wide k)] 3 (0, 0))) ∧ Aside0 (W2.heap[gk]? = some (.cells #[.int .i64 k] 23 (0, 0))) := by
  rcases hw with ⟨_, gb, gk, h1, _, _, h4, h5⟩ | ⟨h, _⟩ | ⟨h, _⟩
  ·exact ⟨gb, gk, h1, ⟨h4⟩, ⟨h5⟩⟩
  ·have := HK.out; omega
  ·have := HK.out; omega
 clear hw
 unfold wayW ptr
 go_wp2
 obtain ⟨W0, hW0, hgw, hb⟩ := way_world (W1 := W2) (t := 62) #[.func (.func 48) #[] #[.pointer (some ⟨gb, 0, none⟩)], .func (.func 49) #[] #[.pointer (some ⟨gb, 0, none⟩)], .func (.func 51) #[] #[.pointer (some ⟨gb, 0, none⟩), .pointer (some ⟨gk, 0, none⟩)]]
 rw [← hW0]
 clear hW0
 obtain ⟨gw, hgwe⟩ : ∃ gw, gw = W2.heap.size := ⟨_, rfl⟩
 rw [← hgwe] at hgw ⊢
 have HGW := Aside0.mk hgw
 have HBW := Aside0.mk (below_step HB2.out hb)
 have K1 := Aside0.mk (blk_below G1.out hb)
 have K2 := Aside0.mk (blk_below G2.out hb)
 clear G1 G2
 have HRW := Aside0.mk (Kd.C_below HR.out HBW.out)
 clear hgw hb HB2 HR x2 x3 hgwe HWAY HCHK
 go_loopw [8, 10, 41] (fun v8 v10 v41 wr => ∃ (i : Nat) (at_ : Int) (acc : List S30), v41 = .int .i64 (i : Int) ∧ v10 = .int .i64 at_ ∧ i ≤ cnt ∧ Aside0 (rdGo F k s l0 (cnt - i) at_ acc = some (r1, r2)) ∧ Aside0 (Kd.R k30 30 wr W0.heap.size (fun _ => True) v8 acc) ∧ Aside0 (Below W0.heap.size W0 wr))
  (fun _ _ i _ => cnt - (intOf i).toNat)
 case atStart => exact ⟨0, 0, [], rfl, rfl, Nat.zero_le _, by simpa using H, ⟨Kd.R_nil _ _ _ _ _⟩, ⟨Below.refl _ _⟩⟩
 case round =>
  obtain ⟨i, at_, acc, rfl, rfl, hi, HA, HO, HB⟩ := hrel
  clear H
  by_cases ci : i < cnt
  ·have q1 : decide ((i : Int) < (cnt : Int)) = true := decide_eq_true (by omega)
   obtain ⟨j, hj⟩ : ∃ j, cnt - i = j + 1 := ⟨cnt - i - 1, by omega⟩
   have hA := HA.out
   rw [hj, rdGo] at hA
   by_cases ca : 0 ≤ at_ ∧ at_ ≤ (l0.length : Int)
   ·rw [if_pos ca] at hA
    obtain ⟨⟨x, n⟩, hp, hA⟩ := Option.bind_eq_some_iff.1 hA
    dsimp only at hA
    obtain ⟨ca1, ca2⟩ := ca
    obtain ⟨i0, hi0, _, hsz, _⟩ := info_parts info5
    obtain ⟨A1, hcut, hD, hC1⟩ := print_drop_of (P := Try.prog) (Value.int .u8) 0 22 5 .i64 Try.underlying22 hi0 hsz A0 c0 l0 at_ ca1 ca2 hc0
    obtain ⟨b, hbl⟩ : ∃ b, b = l0.drop at_.toNat := ⟨_, rfl⟩
    rw [← hbl] at hcut hD hp hC1
    have HD := Aside0.mk (Kd.C_of_reads (h1 := fun _ => rfl) (hD _ (Kd.reads_of_C HRW.out)))
    have HP := Aside0.mk hp
    have HA2 := Aside0.mk hA
    have HC2 : ∀ W, Below W0.heap.size W0 W → W.cell? ⟨gw, 2, none⟩ = some (.func (.func 51) #[] #[.pointer (some ⟨gb, 0, none⟩), .pointer (some ⟨gk, 0, none⟩)]) := fun W hW => (blk_cell (blk_below HGW.out hW) 2).trans rfl
    have HCALL : ∀ W, Below W0.heap.size W0 W → Calls Try.prog 51 #[.slice A1 b.length (c0 - at_.toNat), .pointer (some ⟨gb, 0, none⟩), .pointer (some ⟨gk, 0, none⟩)] W fun e w' => e = .returned (.tuple #[.agg #[.int .i64 x.f0, .int .i64 x.f1, .string x.f2], .int .i64 n]) ∧ Below W.heap.size W w' := fun W hW => rdWhole_calls F A1 _ b k gb gk x n W (Kd.C_below HD.out hW) hC1 (blk_below K1.out hW) (blk_below K2.out hW) (by have h := HP.out; unfold rdBy at h; rwa [if_neg (by have := HK.out; omega), if_neg (by have := HK.out; omega)] at h)
    have HZ := Aside0.mk (blk_new wr (Obj.cells #[Value.int IntKind.i64 0, Value.int IntKind.i64 0, Value.string { data := #[] }] 30))
    have hB := HB.out
    clear hA hp HA HD hbl hD HGW
    go_upto_region 12 with fail
    go_cut [11, 12] from 42 to 61 (fun v11 v12 wx => ∃ gd : Nat, v11 = .pointer (some ⟨gd, 0, none⟩) ∧ v12 = .int .i64 n ∧ Aside0 (wx.heap[gd]? = some (.cells #[.int .i64 x.f0, .int .i64 x.f1, .string x.f2] 30 (0, 0))) ∧ Aside0 (Below wr.heap.size wr wx))
    case first =>
     have hBr : Below wr.heap.size wr wr := Below.refl _ _
     go_region_held3 (fun w' => w'.cell? ⟨gw, 2, none⟩ = some (.func (.func 51) #[] #[.pointer (some ⟨gb, 0, none⟩), .pointer (some ⟨gk, 0, none⟩)])) (first | (refine HC2 _ ?_; repeat (first | exact hB | exact hB1 | apply below_drew1 | apply below_alloc | (refine below_set ?_ (by first | exact Nat.le_refl _ | exact hB.size | exact hB1.size)))))
      (first | (go_at_call 51; refine (HCALL _ (by repeat (first | exact hB | apply below_drew1 | apply below_alloc))).mono ?_; rintro e W1 ⟨rfl, hb⟩; have hBr1 : Below wr.heap.size wr W1 := below_step (show Below wr.heap.size wr _ by repeat (first | exact hBr | apply below_drew1 | apply below_alloc)) hb; have hB1 : Below W0.heap.size W0 W1 := below_step (show Below W0.heap.size W0 _ by repeat (first | exact hB | apply below_drew1 | apply below_alloc)) hb; have hcl := fun (p : Addr) (hp : p.block < _) => hb.cell (p := p) hp; have hfr := fun (p : Addr) (hp : p.block < _) => hb.frozen (p := p) hp))
     all_goals go_wp2_with fail
     all_goals go_meet
     case rel => exact ⟨_, rfl, rfl, ⟨blk_new _ _⟩, ⟨below_alloc hBr1 _⟩⟩
     case rel =>
      have hz1 := blk_below (o := Obj.cells #[Value.int IntKind.i64 0, Value.int IntKind.i64 0, Value.string { data := #[] }] 30) (g := wr.heap.size) (by repeat (first | exact HZ.out | apply blk_drew)) hb
      exact ⟨_, rfl, rfl, ⟨blk_set (blk_set (blk_set hz1 0 _) 1 _) 2 _⟩, ⟨below_set (below_set (below_set hBr1 (Nat.le_refl _)) (Nat.le_refl _)) (Nat.le_refl _)⟩⟩
    case rest =>
     obtain ⟨gd, rfl, rfl, HGD, HBX2⟩ := hcut
     have hA := HA2.out
     have HBc := Aside0.mk (below_then HB.out HB.out.size HBX2.out)
     have HOc := Aside0.mk (Kd.R_below HO.out HBX2.out)
     have y0 := (blk_cell HGD.out 0).trans rfl
     have y1 := (blk_cell HGD.out 1).trans rfl
     have y2 := (blk_cell HGD.out 2).trans rfl
     clear HA2 HO HB HBX2 HC2 HCALL hB HZ
     by_cases cn : n = 0
     ·subst cn
      rw [if_pos rfl] at hA
      obtain ⟨rfl, rfl⟩ : ([] : List S30) = r1 ∧ (6 : Int) = r2 := by simpa using hA
      go_wp2
      go_ret2
      exact ⟨_, rfl, Kd.R_nil _ _ _ _ _, below_step HBW.out HBc.out⟩
     ·have q3 : (n == 0) = false := beq_eq_false_iff_ne.2 cn
      rw [if_neg cn] at hA
      by_cases cl : acc.length < 4398046511104
      ·rw [if_pos cl] at hA
       have HA3 := Aside0.mk hA
       have HLM := Aside0.mk cl
       clear hA cl
       go_wp2_with (first | ((with_reducible refine gate_builtin (b := .append) (xs := #[.tmp 54, .tmp 56]) rfl ?_); at_builtin; refine Kd.R_append k30 (w0 := W0) W0.heap.size rfl (.tmp 54) (.tmp 56) 35 30 (.agg #[(.int .i64 0), (.int .i64 0), (.string ⟨#[]⟩)]) 32 rfl Try.underlying35 info30 rfl (by decide) (by omega) u8 acc x [.int .i64 x.f0, .int .i64 x.f1, .string x.f2] (fun _ => True) (fun _ => False) rfl rfl ?aP (fun _ hk => hk.elim) ?aF ?aO ?aB ?aS ?aL ?_; (case aP => exact k30_mkM _ _ _ x); (case aB => exact (by repeat (first | exact HBc.out | apply below_alloc))); (case aF => exact (fun _ _ => trivial)); (case aO => exact (by (with_reducible repeat (first | apply Kd.R_alloc)); exact HOc.out)); (case aS => exact (below_size (by repeat (first | exact HBc.out | apply below_alloc)))); (case aL => have := HLM.out; omega); intro v99 w99 ho hb hg hat; have HO9 := Aside0.mk ho; have HB9 := Aside0.mk hb; clear ho hb hg hat))
       go_roundw
       case rel => exact ⟨i + 1, wrap64 (at_ + n), acc ++ [x], by go_num, rfl, by omega, by rw [show cnt - (i + 1) = j by omega]; exact HA3, HO9, HB9⟩
       case measure => simp [intOf]; omega
      ·rw [if_neg cl] at hA; cases hA
   ·rw [if_neg ca] at hA; cases hA
  ·have q1 : decide ((i : Int) < (cnt : Int)) = false := decide_eq_false (by omega)
   have hA := HA.out
   rw [show cnt - i = 0 by omega, rdGo] at hA
   have hA := Option.some.inj hA
   by_cases ce : at_ < (l0.length : Int)
   ·have q2 : decide (at_ < (l0.length : Int)) = true := decide_eq_true ce
    rw [if_pos ce] at hA
    obtain ⟨rfl, rfl⟩ : ([] : List S30) = r1 ∧ (7 : Int) = r2 := by simpa using hA
    go_wp2
    go_ret2
    exact ⟨_, rfl, Kd.R_nil _ _ _ _ _, below_step HBW.out HB.out⟩
   ·have q2 : decide (at_ < (l0.length : Int)) = false := decide_eq_false ce
    rw [if_neg ce] at hA
    obtain ⟨rfl, rfl⟩ : acc = r1 ∧ (0 : Int) = r2 := by simpa using hA
    go_wp2
    go_ret2
    exact ⟨_, rfl, Kd.R_lower HO.out HBW.out.size, below_step HBW.out HB.out⟩
set_option maxRecDepth 100000 in
set_option maxHeartbeats 16000000 in
theorem rd_L (F : Nat) (A0 : Option Addr) (c0 : Nat) (l0 : List Int) (k s : Int) (cnt : Nat) (r1 : List S30) (r2 : Int) (w : World) (hr0 : Kd.C (Kd.int .u8) w A0 l0.length l0) (hc0 : l0.length ≤ c0) (hl : (l0.length : Int) ≤ 1048576) (hcnt : cnt ≤ 65536) (hchk : datum_Check.f k s = some 0) (hkind : k = 6) (h : rdGo F k s l0 cnt 0 [] = some (r1, r2)) :
  Calls Try.prog 10 #[.slice A0 l0.length c0, .agg #[.int .i64 k, .int .i64 s], .int .i64 (cnt : Int)] w fun e w' => ∃ v0_ : Value, e = .returned (.tuple #[v0_, .int .i64 r2]) ∧ Kd.R k30 30 w' w.heap.size (fun _ => True) v0_ r1 ∧ Below w.heap.size w w' := by
 have hu25 := Try.underlying25
 have hu30 := Try.underlying30
 have hu62 := Try.underlying62
 have d0 : (k == 0) = false := beq_eq_false_iff_ne.2 (by subst hkind; decide)
 have d1 : decide ((cnt : Int) < 0) = false := decide_eq_false (by omega)
 have d2 : decide ((l0.length : Int) > 1048576) = false := decide_eq_false (by omega)
 have d3 : decide ((cnt : Int) > 65536) = false := decide_eq_false (by omega)
 have H := Aside0.mk h
 have HR := Aside0.mk hr0
 have HCHK := fun W => datum_Check.calls k s 0 W hchk
 have HWAY := fun W => ways_calls k s (by simp [hkind]) W
 have HB0 := Aside0.mk (Below.refl w.heap.size w)
 have HBX := Aside0.mk (blk_new w (Obj.cells #[Value.int IntKind.i64 k, Value.int IntKind.i64 s] 25))
 have HK := Aside0.mk hkind
 clear h hr0 hchk hkind
 go_enter Try.func10, Try.ntmps10
 go_wp2_with fail
 refine (HCHK _).mono ?_
 rintro e W1 ⟨rfl, hb⟩
 have x0 : W1.cell? ⟨w.heap.size, 0, none⟩ = some (.int .i64 k) := (hb.cell (by simp)).trans (by simp)
 have x1 : W1.cell? ⟨w.heap.size, 1, none⟩ = some (.int .i64 s) := (hb.cell (by simp)).trans (by simp)
 have HB1 := Aside0.mk (below_step (below_alloc HB0.out _) hb)
 clear hb
 go_wp2_with fail
 refine (HWAY _).mono ?_
 rintro e W2 ⟨v, rfl, hw, hb⟩
 have x2 : W2.cell? ⟨w.heap.size, 0, none⟩ = some (.int .i64 k) := (hb.cell (World.block_lt_of_cell? _ _ x0)).trans x0
 have x3 : W2.cell? ⟨w.heap.size, 1, none⟩ = some (.int .i64 s) := (hb.cell (World.block_lt_of_cell? _ _ x1)).trans x1
 have HB2 := Aside0.mk (below_step HB1.out hb)
 clear hb x0 x1 HB1
 obtain rfl : v = wayL := by
  rcases hw with ⟨h, _⟩ | ⟨_, h⟩ | ⟨h, _⟩
  ·have := HK.out; omega
  ·exact h
  ·have := HK.out; omega
 clear hw
 unfold wayL
 go_wp2
 obtain ⟨W0, hW0, hgw, hb⟩ := way_world (W1 := W2) (t := 62) #[.func (.func 53) #[] #[], .func (.func 54) #[] #[], .func (.func 55) #[] #[]]
 rw [← hW0]
 clear hW0
 obtain ⟨gw, hgwe⟩ : ∃ gw, gw = W2.heap.size := ⟨_, rfl⟩
 rw [← hgwe] at hgw ⊢
 have HGW := Aside0.mk hgw
 have HBW := Aside0.mk (below_step HB2.out hb)
 skip
 have HRW := Aside0.mk (Kd.C_below HR.out HBW.out)
 clear hgw hb HB2 HR x2 x3 hgwe HWAY HCHK
 go_loopw [8, 10, 41] (fun v8 v10 v41 wr => ∃ (i : Nat) (at_ : Int) (acc : List S30), v41 = .int .i64 (i : Int) ∧ v10 = .int .i64 at_ ∧ i ≤ cnt ∧ Aside0 (rdGo F k s l0 (cnt - i) at_ acc = some (r1, r2)) ∧ Aside0 (Kd.R k30 30 wr W0.heap.size (fun _ => True) v8 acc) ∧ Aside0 (Below W0.heap.size W0 wr))
  (fun _ _ i _ => cnt - (intOf i).toNat)
 case atStart => exact ⟨0, 0, [], rfl, rfl, Nat.zero_le _, by simpa using H, ⟨Kd.R_nil _ _ _ _ _⟩, ⟨Below.refl _ _⟩⟩
 case round =>
  obtain ⟨i, at_, acc, rfl, rfl, hi, HA, HO, HB⟩ := hrel
  clear H
  by_cases ci : i < cnt
  ·have q1 : decide ((i : Int) < (cnt : Int)) = true := decide_eq_true (by omega)
   obtain ⟨j, hj⟩ : ∃ j, cnt - i = j + 1 := ⟨cnt - i - 1, by omega⟩
   have hA := HA.out
   rw [hj, rdGo] at hA
   by_cases ca : 0 ≤ at_ ∧ at_ ≤ (l0.length : Int)
   ·rw [if_pos ca] at hA
    obtain ⟨⟨x, n⟩, hp, hA⟩ := Option.bind_eq_some_iff.1 hA
    dsimp only at hA
    obtain ⟨ca1, ca2⟩ := ca
    obtain ⟨i0, hi0, _, hsz, _⟩ := info_parts info5
    obtain ⟨A1, hcut, hD, hC1⟩ := print_drop_of (P := Try.prog) (Value.int .u8) 0 22 5 .i64 Try.underlying22 hi0 hsz A0 c0 l0 at_ ca1 ca2 hc0
    obtain ⟨b, hbl⟩ : ∃ b, b = l0.drop at_.toNat := ⟨_, rfl⟩
    rw [← hbl] at hcut hD hp hC1
    have HD := Aside0.mk (Kd.C_of_reads (h1 := fun _ => rfl) (hD _ (Kd.reads_of_C HRW.out)))
    have HP := Aside0.mk hp
    have HA2 := Aside0.mk hA
    have HC2 : ∀ W, Below W0.heap.size W0 W → W.cell? ⟨gw, 2, none⟩ = some (.func (.func 55) #[] #[]) := fun W hW => (blk_cell (blk_below HGW.out hW) 2).trans rfl
    have HCALL : ∀ W, Below W0.heap.size W0 W → Calls Try.prog 55 #[.slice A1 b.length (c0 - at_.toNat)] W fun e w' => e = .returned (.tuple #[.agg #[.int .i64 x.f0, .int .i64 x.f1, .string x.f2], .int .i64 n]) ∧ Below W.heap.size W w' := fun W hW => rdLong_calls F A1 _ b x n W (Kd.C_below HD.out hW) hC1 (by have h := HP.out; unfold rdBy at h; rwa [if_pos HK.out] at h)
    have HZ := Aside0.mk (blk_new wr (Obj.cells #[Value.int IntKind.i64 0, Value.int IntKind.i64 0, Value.string { data := #[] }] 30))
    have hB := HB.out
    clear hA hp HA HD hbl hD HGW
    go_upto_region 12 with fail
    go_cut [11, 12] from 42 to 61 (fun v11 v12 wx => ∃ gd : Nat, v11 = .pointer (some ⟨gd, 0, none⟩) ∧ v12 = .int .i64 n ∧ Aside0 (wx.heap[gd]? = some (.cells #[.int .i64 x.f0, .int .i64 x.f1, .string x.f2] 30 (0, 0))) ∧ Aside0 (Below wr.heap.size wr wx))
    case first =>
     have hBr : Below wr.heap.size wr wr := Below.refl _ _
     go_region_held3 (fun w' => w'.cell? ⟨gw, 2, none⟩ = some (.func (.func 55) #[] #[])) (first | (refine HC2 _ ?_; repeat (first | exact hB | exact hB1 | apply below_drew1 | apply below_alloc | (refine below_set ?_ (by first | exact Nat.le_refl _ | exact hB.size | exact hB1.size)))))
      (first | (go_at_call 55; refine (HCALL _ (by repeat (first | exact hB | apply below_drew1 | apply below_alloc))).mono ?_; rintro e W1 ⟨rfl, hb⟩; have hBr1 : Below wr.heap.size wr W1 := below_step (show Below wr.heap.size wr _ by repeat (first | exact hBr | apply below_drew1 | apply below_alloc)) hb; have hB1 : Below W0.heap.size W0 W1 := below_step (show Below W0.heap.size W0 _ by repeat (first | exact hB | apply below_drew1 | apply below_alloc)) hb; have hcl := fun (p : Addr) (hp : p.block < _) => hb.cell (p := p) hp; have hfr := fun (p : Addr) (hp : p.block < _) => hb.frozen (p := p) hp))
     all_goals go_wp2_with fail
     all_goals go_meet
     case rel => exact ⟨_, rfl, rfl, ⟨blk_new _ _⟩, ⟨below_alloc hBr1 _⟩⟩
     case rel =>
      have hz1 := blk_below (o := Obj.cells #[Value.int IntKind.i64 0, Value.int IntKind.i64 0, Value.string { data := #[] }] 30) (g := wr.heap.size) (by repeat (first | exact HZ.out | apply blk_drew)) hb
      exact ⟨_, rfl, rfl, ⟨blk_set (blk_set (blk_set hz1 0 _) 1 _) 2 _⟩, ⟨below_set (below_set (below_set hBr1 (Nat.le_refl _)) (Nat.le_refl _)) (Nat.le_refl _)⟩⟩
    case rest =>
     obtain ⟨gd, rfl, rfl, HGD, HBX2⟩ := hcut
     have hA := HA2.out
     have HBc := Aside0.mk (below_then HB.out HB.out.size HBX2.out)
     have HOc := Aside0.mk (Kd.R_below HO.out HBX2.out)
     have y0 := (blk_cell HGD.out 0).trans rfl
     have y1 := (blk_cell HGD.out 1).trans rfl
     have y2 := (blk_cell HGD.out 2).trans rfl
     clear HA2 HO HB HBX2 HC2 HCALL hB HZ
     by_cases cn : n = 0
     ·subst cn
      rw [if_pos rfl] at hA
      obtain ⟨rfl, rfl⟩ : ([] : List S30) = r1 ∧ (6 : Int) = r2 := by simpa using hA
      go_wp2
      go_ret2
      exact ⟨_, rfl, Kd.R_nil _ _ _ _ _, below_step HBW.out HBc.out⟩
     ·have q3 : (n == 0) = false := beq_eq_false_iff_ne.2 cn
      rw [if_neg cn] at hA
      by_cases cl : acc.length < 4398046511104
      ·rw [if_pos cl] at hA
       have HA3 := Aside0.mk hA
       have HLM := Aside0.mk cl
       clear hA cl
       go_wp2_with (first | ((with_reducible refine gate_builtin (b := .append) (xs := #[.tmp 54, .tmp 56]) rfl ?_); at_builtin; refine Kd.R_append k30 (w0 := W0) W0.heap.size rfl (.tmp 54) (.tmp 56) 35 30 (.agg #[(.int .i64 0), (.int .i64 0), (.string ⟨#[]⟩)]) 32 rfl Try.underlying35 info30 rfl (by decide) (by omega) u8 acc x [.int .i64 x.f0, .int .i64 x.f1, .string x.f2] (fun _ => True) (fun _ => False) rfl rfl ?aP (fun _ hk => hk.elim) ?aF ?aO ?aB ?aS ?aL ?_; (case aP => exact k30_mkM _ _ _ x); (case aB => exact (by repeat (first | exact HBc.out | apply below_alloc))); (case aF => exact (fun _ _ => trivial)); (case aO => exact (by (with_reducible repeat (first | apply Kd.R_alloc)); exact HOc.out)); (case aS => exact (below_size (by repeat (first | exact HBc.out | apply below_alloc)))); (case aL => have := HLM.out; omega); intro v99 w99 ho hb hg hat; have HO9 := Aside0.mk ho; have HB9 := Aside0.mk hb; clear ho hb hg hat))
       go_roundw
       case rel => exact ⟨i + 1, wrap64 (at_ + n), acc ++ [x], by go_num, rfl, by omega, by rw [show cnt - (i + 1) = j by omega]; exact HA3, HO9, HB9⟩
       case measure => simp [intOf]; omega
      ·rw [if_neg cl] at hA; cases hA
   ·rw [if_neg ca] at hA; cases hA
  ·have q1 : decide ((i : Int) < (cnt : Int)) = false := decide_eq_false (by omega)
   have hA := HA.out
   rw [show cnt - i = 0 by omega, rdGo] at hA
   have hA := Option.some.inj hA
   by_cases ce : at_ < (l0.length : Int)
   ·have q2 : decide (at_ < (l0.length : Int)) = true := decide_eq_true ce
    rw [if_pos ce] at hA
    obtain ⟨rfl, rfl⟩ : ([] : List S30) = r1 ∧ (7 : Int) = r2 := by simpa using hA
    go_wp2
    go_ret2
    exact ⟨_, rfl, Kd.R_nil _ _ _ _ _, below_step HBW.out HB.out⟩
   ·have q2 : decide (at_ < (l0.length : Int)) = false := decide_eq_false ce
    rw [if_neg ce] at hA
    obtain ⟨rfl, rfl⟩ : acc = r1 ∧ (0 : Int) = r2 := by simpa using hA
    go_wp2
    go_ret2
    exact ⟨_, rfl, Kd.R_lower HO.out HBW.out.size, below_step HBW.out HB.out⟩
set_option maxRecDepth 100000 in
set_option maxHeartbeats 16000000 in
theorem rd_F (F : Nat) (A0 : Option Addr) (c0 : Nat) (l0 : List Int) (k s : Int) (cnt : Nat) (r1 : List S30) (r2 : Int) (w : World) (hr0 : Kd.C (Kd.int .u8) w A0 l0.length l0) (hc0 : l0.length ≤ c0) (hl : (l0.length : Int) ≤ 1048576) (hcnt : cnt ≤ 65536) (hchk : datum_Check.f k s = some 0) (hkind : k = 7) (h : rdGo F k s l0 cnt 0 [] = some (r1, r2)) :
  Calls Try.prog 10 #[.slice A0 l0.length c0, .agg #[.int .i64 k, .int .i64 s], .int .i64 (cnt : Int)] w fun e w' => ∃ v0_ : Value, e = .returned (.tuple #[v0_, .int .i64 r2]) ∧ Kd.R k30 30 w' w.heap.size (fun _ => True) v0_ r1 ∧ Below w.heap.size w w' := by
 have hu25 := Try.underlying25
 have hu30 := Try.underlying30
 have hu62 := Try.underlying62
 have d0 : (k == 0) = false := beq_eq_false_iff_ne.2 (by subst hkind; decide)
 have d1 : decide ((cnt : Int) < 0) = false := decide_eq_false (by omega)
 have d2 : decide ((l0.length : Int) > 1048576) = false := decide_eq_false (by omega)
 have d3 : decide ((cnt : Int) > 65536) = false := decide_eq_false (by omega)
 have H := Aside0.mk h
 have HR := Aside0.mk hr0
 have HCHK := fun W => datum_Check.calls k s 0 W hchk
 have HWAY := fun W => ways_calls k s (by simp [hkind]) W
 have HB0 := Aside0.mk (Below.refl w.heap.size w)
 have HBX := Aside0.mk (blk_new w (Obj.cells #[Value.int IntKind.i64 k, Value.int IntKind.i64 s] 25))
 have HK := Aside0.mk hkind
 clear h hr0 hchk hkind
 go_enter Try.func10, Try.ntmps10
 go_wp2_with fail
 refine (HCHK _).mono ?_
 rintro e W1 ⟨rfl, hb⟩
 have x0 : W1.cell? ⟨w.heap.size, 0, none⟩ = some (.int .i64 k) := (hb.cell (by simp)).trans (by simp)
 have x1 : W1.cell? ⟨w.heap.size, 1, none⟩ = some (.int .i64 s) := (hb.cell (by simp)).trans (by simp)
 have HB1 := Aside0.mk (below_step (below_alloc HB0.out _) hb)
 clear hb
 go_wp2_with fail
 refine (HWAY _).mono ?_
 rintro e W2 ⟨v, rfl, hw, hb⟩
 have x2 : W2.cell? ⟨w.heap.size, 0, none⟩ = some (.int .i64 k) := (hb.cell (World.block_lt_of_cell? _ _ x0)).trans x0
 have x3 : W2.cell? ⟨w.heap.size, 1, none⟩ = some (.int .i64 s) := (hb.cell (World.block_lt_of_cell? _ _ x1)).trans x1
 have HB2 := Aside0.mk (below_step HB1.out hb)
 clear hb x0 x1 HB1
 obtain ⟨g, rfl, G1⟩ : ∃ g, v = wayF g ∧ Aside0 (W2.heap[g]? = some (.cells #[.int .i64 s] 3 (0, 0))) := by
  rcases hw with ⟨h, _⟩ | ⟨h, _⟩ | ⟨_, g, h1, _, h4⟩
  ·have := HK.out; omega
  ·have := HK.out; omega
  ·exact ⟨g, h1, ⟨h4⟩⟩
 clear hw
 unfold wayF ptr
 go_wp2
 obtain ⟨W0, hW0, hgw, hb⟩ := way_world (W1 := W2) (t := 62) #[.func (.func 57) #[] #[.pointer (some ⟨g, 0, none⟩)], .func (.func 58) #[] #[], .func (.func 59) #[] #[.pointer (some ⟨g, 0, none⟩)]]
 rw [← hW0]
 clear hW0
 obtain ⟨gw, hgwe⟩ : ∃ gw, gw = W2.heap.size := ⟨_, rfl⟩
 rw [← hgwe] at hgw ⊢
 have HGW := Aside0.mk hgw
 have HBW := Aside0.mk (below_step HB2.out hb)
 have K1 := Aside0.mk (blk_below G1.out hb)
 clear G1
 have HRW := Aside0.mk (Kd.C_below HR.out HBW.out)
 clear hgw hb HB2 HR x2 x3 hgwe HWAY HCHK
 go_loopw [8, 10, 41] (fun v8 v10 v41 wr => ∃ (i : Nat) (at_ : Int) (acc : List S30), v41 = .int .i64 (i : Int) ∧ v10 = .int .i64 at_ ∧ i ≤ cnt ∧ Aside0 (rdGo F k s l0 (cnt - i) at_ acc = some (r1, r2)) ∧ Aside0 (Kd.R k30 30 wr W0.heap.size (fun _ => True) v8 acc) ∧ Aside0 (Below W0.heap.size W0 wr))
  (fun _ _ i _ => cnt - (intOf i).toNat)
 case atStart => exact ⟨0, 0, [], rfl, rfl, Nat.zero_le _, by simpa using H, ⟨Kd.R_nil _ _ _ _ _⟩, ⟨Below.refl _ _⟩⟩
 case round =>
  obtain ⟨i, at_, acc, rfl, rfl, hi, HA, HO, HB⟩ := hrel
  clear H
  by_cases ci : i < cnt
  ·have q1 : decide ((i : Int) < (cnt : Int)) = true := decide_eq_true (by omega)
   obtain ⟨j, hj⟩ : ∃ j, cnt - i = j + 1 := ⟨cnt - i - 1, by omega⟩
   have hA := HA.out
   rw [hj, rdGo] at hA
   by_cases ca : 0 ≤ at_ ∧ at_ ≤ (l0.length : Int)
   ·rw [if_pos ca] at hA
    obtain ⟨⟨x, n⟩, hp, hA⟩ := Option.bind_eq_some_iff.1 hA
    dsimp only at hA
    obtain ⟨ca1, ca2⟩ := ca
    obtain ⟨i0, hi0, _, hsz, _⟩ := info_parts info5
    obtain ⟨A1, hcut, hD, hC1⟩ := print_drop_of (P := Try.prog) (Value.int .u8) 0 22 5 .i64 Try.underlying22 hi0 hsz A0 c0 l0 at_ ca1 ca2 hc0
    obtain ⟨b, hbl⟩ : ∃ b, b = l0.drop at_.toNat := ⟨_, rfl⟩
    rw [← hbl] at hcut hD hp hC1
    have HD := Aside0.mk (Kd.C_of_reads (h1 := fun _ => rfl) (hD _ (Kd.reads_of_C HRW.out)))
    have HP := Aside0.mk hp
    have HA2 := Aside0.mk hA
    have HC2 : ∀ W, Below W0.heap.size W0 W → W.cell? ⟨gw, 2, none⟩ = some (.func (.func 59) #[] #[.pointer (some ⟨g, 0, none⟩)]) := fun W hW => (blk_cell (blk_below HGW.out hW) 2).trans rfl
    have HCALL : ∀ W, Below W0.heap.size W0 W → Calls Try.prog 59 #[.slice A1 b.length (c0 - at_.toNat), .pointer (some ⟨g, 0, none⟩)] W fun e w' => e = .returned (.tuple #[.agg #[.int .i64 x.f0, .int .i64 x.f1, .string x.f2], .int .i64 n]) ∧ Below W.heap.size W w' := fun W hW => rdFixed_calls A1 _ b s g x n W (Kd.C_below HD.out hW) hC1 (blk_below K1.out hW) (by have h := HP.out; unfold rdBy at h; rwa [if_neg (by have := HK.out; omega), if_pos HK.out] at h)
    have HZ := Aside0.mk (blk_new wr (Obj.cells #[Value.int IntKind.i64 0, Value.int IntKind.i64 0, Value.string { data := #[] }] 30))
    have hB := HB.out
    clear hA hp HA HD hbl hD HGW
    go_upto_region 12 with fail
    go_cut [11, 12] from 42 to 61 (fun v11 v12 wx => ∃ gd : Nat, v11 = .pointer (some ⟨gd, 0, none⟩) ∧ v12 = .int .i64 n ∧ Aside0 (wx.heap[gd]? = some (.cells #[.int .i64 x.f0, .int .i64 x.f1, .string x.f2] 30 (0, 0))) ∧ Aside0 (Below wr.heap.size wr wx))
    case first =>
     have hBr : Below wr.heap.size wr wr := Below.refl _ _
     go_region_held3 (fun w' => w'.cell? ⟨gw, 2, none⟩ = some (.func (.func 59) #[] #[.pointer (some ⟨g, 0, none⟩)])) (first | (refine HC2 _ ?_; repeat (first | exact hB | exact hB1 | apply below_drew1 | apply below_alloc | (refine below_set ?_ (by first | exact Nat.le_refl _ | exact hB.size | exact hB1.size)))))
      (first | (go_at_call 59; refine (HCALL _ (by repeat (first | exact hB | apply below_drew1 | apply below_alloc))).mono ?_; rintro e W1 ⟨rfl, hb⟩; have hBr1 : Below wr.heap.size wr W1 := below_step (show Below wr.heap.size wr _ by repeat (first | exact hBr | apply below_drew1 | apply below_alloc)) hb; have hB1 : Below W0.heap.size W0 W1 := below_step (show Below W0.heap.size W0 _ by repeat (first | exact hB | apply below_drew1 | apply below_alloc)) hb; have hcl := fun (p : Addr) (hp : p.block < _) => hb.cell (p := p) hp; have hfr := fun (p : Addr) (hp : p.block < _) => hb.frozen (p := p) hp))
     all_goals go_wp2_with fail
     all_goals go_meet
     case rel => exact ⟨_, rfl, rfl, ⟨blk_new _ _⟩, ⟨below_alloc hBr1 _⟩⟩
     case rel =>
      have hz1 := blk_below (o := Obj.cells #[Value.int IntKind.i64 0, Value.int IntKind.i64 0, Value.string { data := #[] }] 30) (g := wr.heap.size) (by repeat (first | exact HZ.out | apply blk_drew)) hb
      exact ⟨_, rfl, rfl, ⟨blk_set (blk_set (blk_set hz1 0 _) 1 _) 2 _⟩, ⟨below_set (below_set (below_set hBr1 (Nat.le_refl _)) (Nat.le_refl _)) (Nat.le_refl _)⟩⟩
    case rest =>
     obtain ⟨gd, rfl, rfl, HGD, HBX2⟩ := hcut
     have hA := HA2.out
     have HBc := Aside0.mk (below_then HB.out HB.out.size HBX2.out)
     have HOc := Aside0.mk (Kd.R_below HO.out HBX2.out)
     have y0 := (blk_cell HGD.out 0).trans rfl
     have y1 := (blk_cell HGD.out 1).trans rfl
     have y2 := (blk_cell HGD.out 2).trans rfl
     clear HA2 HO HB HBX2 HC2 HCALL hB HZ
     by_cases cn : n = 0
     ·subst cn
      rw [if_pos rfl] at hA
      obtain ⟨rfl, rfl⟩ : ([] : List S30) = r1 ∧ (6 : Int) = r2 := by simpa using hA
      go_wp2
      go_ret2
      exact ⟨_, rfl, Kd.R_nil _ _ _ _ _, below_step HBW.out HBc.out⟩
     ·have q3 : (n == 0) = false := beq_eq_false_iff_ne.2 cn
      rw [if_neg cn] at hA
      by_cases cl : acc.length < 4398046511104
      ·rw [if_pos cl] at hA
       have HA3 := Aside0.mk hA
       have HLM := Aside0.mk cl
       clear hA cl
       go_wp2_with (first | ((with_reducible refine gate_builtin (b := .append) (xs := #[.tmp 54, .tmp 56]) rfl ?_); at_builtin; refine Kd.R_append k30 (w0 := W0) W0.heap.size rfl (.tmp 54) (.tmp 56) 35 30 (.agg #[(.int .i64 0), (.int .i64 0), (.string ⟨#[]⟩)]) 32 rfl Try.underlying35 info30 rfl (by decide) (by omega) u8 acc x [.int .i64 x.f0, .int .i64 x.f1, .string x.f2] (fun _ => True) (fun _ => False) rfl rfl ?aP (fun _ hk => hk.elim) ?aF ?aO ?aB ?aS ?aL ?_; (case aP => exact k30_mkM _ _ _ x); (case aB => exact (by repeat (first | exact HBc.out | apply below_alloc))); (case aF => exact (fun _ _ => trivial)); (case aO => exact (by (with_reducible repeat (first | apply Kd.R_alloc)); exact HOc.out)); (case aS => exact (below_size (by repeat (first | exact HBc.out | apply below_alloc)))); (case aL => have := HLM.out; omega); intro v99 w99 ho hb hg hat; have HO9 := Aside0.mk ho; have HB9 := Aside0.mk hb; clear ho hb hg hat))
       go_roundw
       case rel => exact ⟨i + 1, wrap64 (at_ + n), acc ++ [x], by go_num, rfl, by omega, by rw [show cnt - (i + 1) = j by omega]; exact HA3, HO9, HB9⟩
       case measure => simp [intOf]; omega
      ·rw [if_neg cl] at hA; cases hA
   ·rw [if_neg ca] at hA; cases hA
  ·have q1 : decide ((i : Int) < (cnt : Int)) = false := decide_eq_false (by omega)
   have hA := HA.out
   rw [show cnt - i = 0 by omega, rdGo] at hA
   have hA := Option.some.inj hA
   by_cases ce : at_ < (l0.length : Int)
   ·have q2 : decide (at_ < (l0.length : Int)) = true := decide_eq_true ce
    rw [if_pos ce] at hA
    obtain ⟨rfl, rfl⟩ : ([] : List S30) = r1 ∧ (7 : Int) = r2 := by simpa using hA
    go_wp2
    go_ret2
    exact ⟨_, rfl, Kd.R_nil _ _ _ _ _, below_step HBW.out HB.out⟩
   ·have q2 : decide (at_ < (l0.length : Int)) = false := decide_eq_false ce
    rw [if_neg ce] at hA
    obtain ⟨rfl, rfl⟩ : acc = r1 ∧ (0 : Int) = r2 := by simpa using hA
    go_wp2
    go_ret2
    exact ⟨_, rfl, Kd.R_lower HO.out HBW.out.size, below_step HBW.out HB.out⟩
set_option maxRecDepth 100000 in
set_option maxHeartbeats 8000000 in
theorem plain_Read.calls (k : Nat) (A0 : Option Addr) (c0 : Nat) (l0 : List Int) (a1_0 a1_1 : Int) (a2 : Int) (r1 : List S30) (r2 : Int) (w : World) (hr0 : Kd.C (Kd.int .u8) w A0 l0.length l0) (hc0 : l0.length ≤ c0) (h : plain_Read.f k l0 a1_0 a1_1 a2 = some (r1, r2)) :
  Calls Try.prog 10 #[.slice A0 l0.length c0, .agg #[.int .i64 a1_0, .int .i64 a1_1], .int .i64 a2] w fun e w' => ∃ v0_ : Value, e = .returned (.tuple #[v0_, .int .i64 r2]) ∧ Kd.R k30 30 w' w.heap.size (fun _ => True) v0_ r1 ∧ Below w.heap.size w w' := by
 unfold plain_Read.f at h
 obtain ⟨e, hchk, h⟩ := Option.bind_eq_some_iff.1 h
 have hu25 := Try.underlying25
 have HCHK := fun W => datum_Check.calls a1_0 a1_1 e W hchk
 have HB0 := Aside0.mk (Below.refl w.heap.size w)
 have HR := Aside0.mk hr0
 by_cases c1 : e = 0
 ·subst c1
  rw [if_neg (by simp)] at h
  by_cases c2 : a2 < 0
  ·rw [if_pos c2] at h
   have d2 : decide (a2 < 0) = true := decide_eq_true c2
   obtain ⟨rfl, rfl⟩ : ([] : List S30) = r1 ∧ (2 : Int) = r2 := by simpa using h
   clear hr0 h hchk
   go_enter Try.func10, Try.ntmps10
   go_wp2_with fail
   refine (HCHK _).mono ?_
   rintro e W1 ⟨rfl, hb⟩
   have HB1 := Aside0.mk (below_step (below_alloc HB0.out _) hb)
   go_wp2
   go_ret2
   exact ⟨_, rfl, Kd.R_nil _ _ _ _ _, HB1.out⟩
  rw [if_neg c2] at h
  have d2 : decide (a2 < 0) = false := decide_eq_false c2
  by_cases c3 : (l0.length : Int) > 1048576
  ·rw [if_pos c3] at h
   have d3 : decide ((l0.length : Int) > 1048576) = true := decide_eq_true c3
   obtain ⟨rfl, rfl⟩ : ([] : List S30) = r1 ∧ (3 : Int) = r2 := by simpa using h
   clear hr0 h hchk
   go_enter Try.func10, Try.ntmps10
   go_wp2_with fail
   refine (HCHK _).mono ?_
   rintro e W1 ⟨rfl, hb⟩
   have HB1 := Aside0.mk (below_step (below_alloc HB0.out _) hb)
   go_wp2
   go_ret2
   exact ⟨_, rfl, Kd.R_nil _ _ _ _ _, HB1.out⟩
  rw [if_neg c3] at h
  have d3 : decide ((l0.length : Int) > 1048576) = false := decide_eq_false c3
  by_cases c4 : a2 > 65536
  ·rw [if_pos c4] at h
   have d4 : decide (a2 > 65536) = true := decide_eq_true c4
   obtain ⟨rfl, rfl⟩ : ([] : List S30) = r1 ∧ (3 : Int) = r2 := by simpa using h
   clear hr0 h hchk
   go_enter Try.func10, Try.ntmps10
   go_wp2_with fail
   refine (HCHK _).mono ?_
   rintro e W1 ⟨rfl, hb⟩
   have HB1 := Aside0.mk (below_step (below_alloc HB0.out _) hb)
   go_wp2
   go_ret2
   exact ⟨_, rfl, Kd.R_nil _ _ _ _ _, HB1.out⟩
  rw [if_neg c4] at h
  have d4 : decide (a2 > 65536) = false := decide_eq_false c4
  by_cases c5 : a1_0 = 0
  ·subst c5
   rw [if_pos rfl] at h
   clear hr0 hchk
   have HT := fun W hr => plain_truths.calls k A0 c0 l0 a2 r1 r2 W hr hc0 h
   go_enter Try.func10, Try.ntmps10
   go_wp2_with fail
   refine (HCHK _).mono ?_
   rintro e W1 ⟨rfl, hb⟩
   have x0 : W1.cell? ⟨w.heap.size, 0, none⟩ = some (.int .i64 0) := (hb.cell (by simp)).trans (by simp)
   have HB1 := Aside0.mk (below_step (below_alloc HB0.out _) hb)
   go_wp2_with fail
   refine (HT _ (Kd.C_below HR.out HB1.out)).mono ?_
   rintro e W2 ⟨v, rfl, hv, hb2⟩
   go_wp2
   go_ret2
   exact ⟨_, rfl, Kd.R_lower hv HB1.out.size, below_step HB1.out hb2⟩
  rw [if_neg c5] at h
  by_cases c6 : a1_0 = 1 ∨ a1_0 = 2 ∨ a1_0 = 4 ∨ a1_0 = 5 ∨ a1_0 = 6 ∨ a1_0 = 7
  ·rw [if_pos c6] at h
   obtain ⟨n, rfl⟩ := Int.eq_ofNat_of_zero_le (show 0 ≤ a2 by omega)
   rw [Int.toNat_natCast] at h
   by_cases k6 : a1_0 = 6
   ·exact rd_L k A0 c0 l0 a1_0 a1_1 n r1 r2 w hr0 hc0 (by omega) (by omega) hchk k6 h
   by_cases k7 : a1_0 = 7
   ·exact rd_F k A0 c0 l0 a1_0 a1_1 n r1 r2 w hr0 hc0 (by omega) (by omega) hchk k7 h
   exact rd_W k A0 c0 l0 a1_0 a1_1 n r1 r2 w hr0 hc0 (by omega) (by omega) hchk (by omega) h
  ·rw [if_neg c6] at h; cases h
 ·rw [if_pos c1] at h
  have d1 : (e != 0) = true := by simp [bne, c1]
  obtain ⟨rfl, rfl⟩ : ([] : List S30) = r1 ∧ (2 : Int) = r2 := by simpa using h
  clear hr0 h hchk
  go_enter Try.func10, Try.ntmps10
  go_wp2_with fail
  refine (HCHK _).mono ?_
  rintro e W1 ⟨rfl, hb⟩
  have HB1 := Aside0.mk (below_step (below_alloc HB0.out _) hb)
  go_wp2
  go_ret2
  exact ⟨_, rfl, Kd.R_nil _ _ _ _ _, HB1.out⟩
end Go.Proofs.Ytcklkngljapecaa.X
end

section
namespace Go.Proofs.Ytcklkngljapecaa.X
open Go.RowKit
set_option linter.unusedVariables false
variable {F : Fence} {n : Nat} {P : Program}
def SeqLays {α : Type} (F : Fence) (n : Nat) (P : Program) (g : Nat) (lb : Array Value) (encs : α → Array Value) (Ab Kp : World → World → Prop) (G : List α → α → World → Prop) (S Sp : List α → Prop) (N : Nat) (W : World) : Prop :=
  ∀ (l : Nat) (J Jx : List α → World → Prop), (∀ s A B, J s A → Ab A B → J s B) → (∀ s A B, Jx s A → Ab A B → Jx s B) →
    (∀ pre x W1, J pre W1 → G pre x W1 → pre.length < N → YieldAt F (n - 1) P l (encs x) W1 fun e W' =>
      (e = .returned (.bool true) ∧ J (pre ++ [x]) W' ∧ Kp W1 W') ∨ (e = .returned (.bool false) ∧ Jx (pre ++ [x]) W' ∧ Kp W1 W')) →
    J [] W →
    CallsIn F n P g (#[.func (.yield l) #[] #[]] ++ lb) W fun e W' => (∃ v, e = .returned v) ∧ ((∃ xs, S xs ∧ J xs W') ∨ (∃ pre, Sp pre ∧ Jx pre W'))
def KeepsTwo (B : Nat) (W W' : World) : Prop := ∀ (k : Nat) (o : Obj), B ≤ k → k < B + 2 → W.heap[k]? = some o → o.isCells = false → W'.heap[k]? = some o
theorem KeepsTwo.trans {B : Nat} {X Y Z : World} (h : KeepsTwo B X Y) (k : KeepsTwo B Y Z) : KeepsTwo B X Z := fun i o h1 h2 hi ho => k i o h1 h2 (h i o h1 h2 hi ho) ho
def postLays {α : Type} (B : Nat) (Kp : World → World → Prop) (I : List α → World → Prop) (Ix : Code → List α → World → Prop) (xs : List α) (W : World) : Exit → Act → World → Prop
  | .normal, _, W' => KeepsTwo B W W' ∧ Kp W W' ∧ I xs W'
  | .ret, _, W' => KeepsTwo B W W' ∧ Kp W W' ∧ Ix .ret xs W'
  | .exit id, _, W' => KeepsTwo B W W' ∧ Kp W W' ∧ Ix (.exit id) xs W'
  | .goto t, _, W' => KeepsTwo B W W' ∧ Kp W W' ∧ Ix (.goto t) xs W'
  | .panic _, _, _ => False
  | .outgrown, _, _ => False
def Turns (B : Nat) (W W' : World) : Prop := ∃ (k : Nat) (o o' : Obj), B ≤ k ∧ k < B + 2 ∧ W.heap[k]? = some o ∧ o.isCells = false ∧ o.isWalk = false ∧ W' = W.putObj k o'
theorem wpIn_rangeFunc_lays {α : Type} {g : Operand} {ps : Array Tmp} {assign body : Code} {Q : Exit → Act → World → Prop} {a : Act} {w : World}
    (hro : F.round = none) (h1 : 1 ≤ n) {gf : Nat} {lb : Array Value} (hg : a.eval g = .func (.func gf) #[] lb) (hFg : F.fn gf) (eg : ∀ args w, (callFunc gf args).run P w = .ok (.enter gf args) w)
    {encs : α → Array Value} {Ab Kp : World → World → Prop} {G : List α → α → World → Prop} {S Sp : List α → Prop} {N : Nat} (hseq : ∀ o1 o2, SeqLays F (n - 1) P gf lb encs Ab Kp G S Sp N ((w.alloc o1).alloc o2))
    (hAb : ∀ A B : World, Ab A B → KeepsTwo w.heap.size A B)
    (hKt : ∀ {A B C : World}, Kp A B → Kp B C → Kp A C) (hKb : ∀ A B : World, Turns w.heap.size A B → Kp A B) (hps : ∀ x, (encs x).size = ps.size)
    (I : List α → World → Prop) (Ix : Code → List α → World → Prop) (hI : ∀ s A B, I s A → Ab A B → I s B) (hIx : ∀ c s A B, Ix c s A → Ab A B → Ix c s B) (hIt : ∀ s A B, I s A → Turns w.heap.size A B → I s B) (hIxt : ∀ c s A B, Ix c s A → Turns w.heap.size A B → Ix c s B)
    (h0 : ∀ o1 o2, I [] ((w.alloc o1).alloc o2)) (Ax : List α → α → Act → World → Prop) (hAx : ∀ pre x a' A B, Ax pre x a' A → Turns w.heap.size A B → Ax pre x a' B)
    (hassign : ∀ (l : Nat) (pre : List α) (x : α) (W : World) (K : Act → World → Prop), I pre W → G pre x W → pre.length < N → (∀ a' W', KeepsTwo w.heap.size W W' → Kp W W' → Ax pre x a' W' → K a' W') →
      assign.wpIn (F.inRound l) (n - 1 - 1) P (Exit.then K (fun _ _ _ => False)) { tmps := (ps.zip (encs x)).foldl (fun t (p, v) => t.setIfInBounds p v) a.tmps, defers := [] } W)
    (hbody : ∀ (l : Nat) (pre : List α) (x : α) (a' : Act) (W : World), Ax pre x a' W → pre.length < N → body.wpIn (F.inRound l) (n - 1 - 1) P (postLays w.heap.size Kp I Ix (pre ++ [x]) W) a' W)
    (hdone : ∀ (D : Nat) (xs : List α) (W : World), w.heap.size ≤ D → D < w.heap.size + 2 → S xs → I xs W → W.heap[D]? = some (.deferred (some [])) → Q .normal { a with defers := { target := .collected D, args := #[] } :: a.defers } W)
    (hstop : ∀ (D : Nat) (c : Code) (pre : List α) (W : World), w.heap.size ≤ D → D < w.heap.size + 2 → Sp pre → Ix c pre W → W.heap[D]? = some (.deferred (some [])) → c.wpIn F n P Q { a with defers := { target := .collected D, args := #[] } :: a.defers } W) :
    (Code.rangeFunc g ps assign body).wpIn F n P Q a w := by
  refine wpIn_rangeFunc fun fn hfn => ?_
  rw [hro]
  obtain ⟨rec, hrec⟩ : ∃ rec : LoopState → Option Code → Loop, rec = fun st pe => { state := st, pending := pe, fn, tmps := a.tmps, params := ps, assign, body, defers := w.heap.size } := ⟨_, rfl⟩
  have hL1 : ((w.alloc (.deferred (some []))).alloc (.loop (rec .ready none))).heap[w.heap.size + 1]? = some (.loop (rec .ready none)) := by
    have := World.alloc_heap_new (w.alloc (.deferred (some []))) (.loop (rec .ready none)); rwa [World.size_alloc] at this
  have hK1 : ((w.alloc (.deferred (some []))).alloc (.loop (rec .ready none))).heap[w.heap.size]? = some (.deferred (some [])) :=
    (Below.heap_alloc _ _ _ (by simp)).trans (World.alloc_heap_new w _)
  refine ⟨w.heap.size + 1, [{ target := .collected w.heap.size, args := #[] }], (w.alloc (.deferred (some []))).alloc (.loop (rec .ready none)), { target := .fn (.func gf) lb, args := #[.func (.yield (w.heap.size + 1)) #[] #[]] }, (w.alloc (.deferred (some []))).alloc (.loop (rec .ready none)), gf,
    #[.func (.yield (w.heap.size + 1)) #[] #[]] ++ lb, (w.alloc (.deferred (some []))).alloc (.loop (rec .ready none)), ?_, ?_, ?_, ?_, fun _ => h1, ?_⟩
  · rw [hrec]; exact run_enterLoop_outer _ _ _ _ _
  · simp only [resolve, hg]
    simp [go_sem]
  · intro f' hf'; simp [Target.leads] at hf'; subst hf'; exact hFg
  · simp [invoke, go_sem, eg]
  have turn : ∀ (W : World) (r : Loop) (o' : Obj), W.heap[w.heap.size + 1]? = some (.loop r) → Turns w.heap.size W (W.putObj (w.heap.size + 1) o') := fun W r o' h => ⟨_, _, o', by omega, by omega, h, rfl, rfl, rfl⟩
  refine (hseq _ _ (w.heap.size + 1)
    (fun pre W => I pre W ∧ W.heap[w.heap.size + 1]? = some (.loop (rec .ready none)) ∧ W.heap[w.heap.size]? = some (.deferred (some [])))
    (fun pre W => ∃ c, Ix c pre W ∧ W.heap[w.heap.size + 1]? = some (.loop (rec .done (some c))) ∧ W.heap[w.heap.size]? = some (.deferred (some [])))
    (fun s A B hs hab => ⟨hI s A B hs.1 hab, hAb A B hab _ _ (by omega) (by omega) hs.2.1 rfl, hAb A B hab _ _ (by omega) (by omega) hs.2.2 rfl⟩)
    (fun s A B hs hab => by
      obtain ⟨c, hc, hl, hk⟩ := hs
      exact ⟨c, hIx c s A B hc hab, hAb A B hab _ _ (by omega) (by omega) hl rfl, hAb A B hab _ _ (by omega) (by omega) hk rfl⟩)
    ?_ ⟨h0 _ _, hL1, hK1⟩).mono ?_
  · rintro pre x W ⟨hi, hl, hk⟩ hG hlen
    have hy := run_yield (P := P) (args := encs x) hl (by rw [hrec]; exact hps x)
    rw [hrec] at hy
    refine ⟨fn, _, assign, body, hy, roundIn_of_wpIn hfn (hassign _ pre x W _ hi hG hlen ?_)⟩
    clear hy
    intro a' Wa hka hpa hax
    have hla := hka _ _ (by omega) (by omega) hl rfl
    have hda := hka _ _ (by omega) (by omega) hk rfl
    refine ⟨_, run_beginRound hla (by rw [hrec]), ?_⟩
    have hlt : w.heap.size + 1 < Wa.heap.size := (Array.getElem?_eq_some_iff.1 hla).1
    have hl2 : (Wa.putObj (w.heap.size + 1) (.loop { rec .ready none with state := .busy })).heap[w.heap.size + 1]? = some (.loop { rec .ready none with state := .busy }) := World.putObj_heap_same hlt
    have hd2 : (Wa.putObj (w.heap.size + 1) (.loop { rec .ready none with state := .busy })).heap[w.heap.size]? = some (.deferred (some [])) := (World.putObj_heap_other (by omega)).trans hda
    have ht2 := turn Wa _ (.loop { rec .ready none with state := .busy }) hla
    refine wpIn_mono (hbody _ pre x a' _ (hAx pre x a' _ _ hax ht2) hlen) ?_
    have fin : ∀ (jump : Option Code) (W3 : World), KeepsTwo w.heap.size (Wa.putObj (w.heap.size + 1) (.loop { rec .ready none with state := .busy })) W3 →
        (Instr.endRound (w.heap.size + 1) jump).run P W3 = .ok (.bool jump.isNone) (W3.putObj (w.heap.size + 1) (.loop (rec (if jump.isNone then .ready else .done) jump))) ∧
        Turns w.heap.size W3 (W3.putObj (w.heap.size + 1) (.loop (rec (if jump.isNone then .ready else .done) jump))) ∧
        (W3.putObj (w.heap.size + 1) (.loop (rec (if jump.isNone then .ready else .done) jump))).heap[w.heap.size + 1]? = some (.loop (rec (if jump.isNone then .ready else .done) jump)) ∧
        (W3.putObj (w.heap.size + 1) (.loop (rec (if jump.isNone then .ready else .done) jump))).heap[w.heap.size]? = some (.deferred (some [])) := fun jump W3 hk3 => by
      have hl3 := hk3 _ _ (by omega) (by omega) hl2 rfl
      have hd3 := hk3 _ _ (by omega) (by omega) hd2 rfl
      have := run_endRound (P := P) jump hl3
      rw [hrec] at this ⊢
      exact ⟨this, turn W3 _ _ hl3, World.putObj_heap_same (Array.getElem?_eq_some_iff.1 hl3).1, (World.putObj_heap_other (by omega)).trans hd3⟩
    rintro e a3 W3 hp
    cases e with
    | normal =>
      obtain ⟨hk3, hkp3, hi3⟩ := hp
      obtain ⟨hr, ht3, hl4, hd4⟩ := fin none W3 hk3
      exact ⟨_, _, hr, .inl ⟨rfl, ⟨hIt _ _ _ hi3 ht3, hl4, hd4⟩, hKt hpa (hKt (hKt (hKb _ _ ht2) hkp3) (hKb _ _ ht3))⟩⟩
    | ret =>
      obtain ⟨hk3, hkp3, hi3⟩ := hp
      obtain ⟨hr, ht3, hl4, hd4⟩ := fin (some .ret) W3 hk3
      exact ⟨_, _, hr, .inr ⟨rfl, ⟨.ret, hIxt _ _ _ _ hi3 ht3, hl4, hd4⟩, hKt hpa (hKt (hKt (hKb _ _ ht2) hkp3) (hKb _ _ ht3))⟩⟩
    | exit id =>
      obtain ⟨hk3, hkp3, hi3⟩ := hp
      obtain ⟨hr, ht3, hl4, hd4⟩ := fin (some (.exit id)) W3 hk3
      exact ⟨_, _, hr, .inr ⟨rfl, ⟨.exit id, hIxt _ _ _ _ hi3 ht3, hl4, hd4⟩, hKt hpa (hKt (hKt (hKb _ _ ht2) hkp3) (hKb _ _ ht3))⟩⟩
    | goto t =>
      obtain ⟨hk3, hkp3, hi3⟩ := hp
      obtain ⟨hr, ht3, hl4, hd4⟩ := fin (some (.goto t)) W3 hk3
      exact ⟨_, _, hr, .inr ⟨rfl, ⟨.goto t, hIxt _ _ _ _ hi3 ht3, hl4, hd4⟩, hKt hpa (hKt (hKt (hKb _ _ ht2) hkp3) (hKb _ _ ht3))⟩⟩
    | panic ch => exact hp.elim
    | outgrown => exact hp.elim
  · rintro e W2 ⟨⟨v, rfl⟩, (⟨xs, hS, hi, hl, hk⟩ | ⟨pre, hSp, c, hi, hl, hk⟩)⟩
    · have hend := run_endLoop (P := P) hl (by rw [hrec]; simp)
      rw [hrec] at hend
      exact ⟨none, _, hend, hdone _ xs _ (Nat.le_refl _) (by omega) hS (hIt _ _ _ hi (turn W2 _ _ hl)) ((World.putObj_heap_other (by omega)).trans hk)⟩
    · have hend := run_endLoop (P := P) hl (by rw [hrec]; simp)
      rw [hrec] at hend
      exact ⟨some c, _, hend, hstop _ c pre _ (Nat.le_refl _) (by omega) hSp (hIxt _ _ _ _ hi (turn W2 _ _ hl)) ((World.putObj_heap_other (by omega)).trans hk)⟩
theorem wpIn_rangeFunc_lays1 {α : Type} {g : Operand} {ps : Array Tmp} {assign body : Code} {Q : Exit → Act → World → Prop} {a : Act} {w : World}
    (hro : F.round = none) (h1 : 1 ≤ n) {gf : Nat} {lb : Array Value} (hg : a.eval g = .func (.func gf) #[] lb) (hFg : F.fn gf) (eg : ∀ args w, (callFunc gf args).run P w = .ok (.enter gf args) w)
    {encs : α → Array Value} {Ab Kp : World → World → Prop} {G : List α → α → World → Prop} {S Sp : List α → Prop} {N : Nat} (hseq : ∀ o1 o2, SeqLays F (n - 1) P gf lb encs Ab Kp G S Sp N ((w.alloc o1).alloc o2))
    (hAb : ∀ A B : World, Ab A B → KeepsTwo w.heap.size A B) (hKr : ∀ A, Kp A A)
    (hKt : ∀ {A B C : World}, Kp A B → Kp B C → Kp A C) (hKb : ∀ A B : World, Turns w.heap.size A B → Kp A B) (hps : ∀ x, (encs x).size = ps.size)
    (I : List α → World → Prop) (Ix : Code → List α → World → Prop) (hI : ∀ s A B, I s A → Ab A B → I s B) (hIx : ∀ c s A B, Ix c s A → Ab A B → Ix c s B) (hIt : ∀ s A B, I s A → Turns w.heap.size A B → I s B) (hIxt : ∀ c s A B, Ix c s A → Turns w.heap.size A B → Ix c s B)
    (hG : ∀ pre x A B, G pre x A → G pre x B) (h0 : ∀ o1 o2, I [] ((w.alloc o1).alloc o2)) (a1 : α → Act)
    (hassign : ∀ (l : Nat) (x : α) (W : World) (K : Act → World → Prop), K (a1 x) W →
      assign.wpIn (F.inRound l) (n - 1 - 1) P (Exit.then K (fun _ _ _ => False)) { tmps := (ps.zip (encs x)).foldl (fun t (p, v) => t.setIfInBounds p v) a.tmps, defers := [] } W)
    (hbody : ∀ (l : Nat) (pre : List α) (x : α) (W : World), I pre W → G pre x W → pre.length < N → body.wpIn (F.inRound l) (n - 1 - 1) P (postLays w.heap.size Kp I Ix (pre ++ [x]) W) (a1 x) W)
    (hdone : ∀ (D : Nat) (xs : List α) (W : World), w.heap.size ≤ D → D < w.heap.size + 2 → S xs → I xs W → W.heap[D]? = some (.deferred (some [])) → Q .normal { a with defers := { target := .collected D, args := #[] } :: a.defers } W)
    (hstop : ∀ (D : Nat) (c : Code) (pre : List α) (W : World), w.heap.size ≤ D → D < w.heap.size + 2 → Sp pre → Ix c pre W → W.heap[D]? = some (.deferred (some [])) → c.wpIn F n P Q { a with defers := { target := .collected D, args := #[] } :: a.defers } W) :
    (Code.rangeFunc g ps assign body).wpIn F n P Q a w :=
  wpIn_rangeFunc_lays hro h1 hg hFg eg hseq hAb hKt hKb hps I Ix hI hIx hIt hIxt h0 (fun pre x a' W => a' = a1 x ∧ I pre W ∧ G pre x W) (fun pre x a' A B h ht => ⟨h.1, hIt _ _ _ h.2.1 ht, hG _ _ _ _ h.2.2⟩)
    (fun l pre x W K hi hg hl hK => hassign l x W K (hK _ _ (fun _ _ _ _ h _ => h) (hKr _) ⟨rfl, hi, hg⟩))
    (fun l pre x a' W h hl => by obtain ⟨rfl, hi, hg⟩ := h; exact hbody l pre x W hi hg hl) hdone hstop
theorem KeepsTwo.refl (B : Nat) (W : World) : KeepsTwo B W W := fun _ _ _ _ h _ => h
theorem lays_named {F : Fence} {n : Nat} {P : Program} {Q : Exit → Act → World → Prop} {a : Act} {w : World} {c : Code} (h : ∀ W, W = w → c.wpIn F n P Q a W) : c.wpIn F n P Q a w := h _ rfl
theorem then_in {F : Fence} {n : Nat} {P : Program} {Q : Exit → Act → World → Prop} {K : Act → World → Prop} {a : Act} {w : World} {c : Code} (M : Act → World → Prop) (hM : ∀ a w, M a w → K a w) (h : c.wpIn F n P (Exit.then M Q) a w) : c.wpIn F n P (Exit.then K Q) a w :=
  wpIn_mono h fun e a w hq => by cases e <;> first | exact hM _ _ hq | exact hq
structure KeepsBut (X : Nat → Prop) (A B : World) : Prop where
  os : B.os = A.os
  tape : B.tape = A.tape
  output : B.output = A.output
  size : A.heap.size ≤ B.heap.size
  block : ∀ k, k < A.heap.size → ¬ X k → B.heap[k]? = A.heap[k]?
theorem KeepsBut.refl (X : Nat → Prop) (A : World) : KeepsBut X A A := ⟨rfl, rfl, rfl, Nat.le_refl _, fun _ _ _ => rfl⟩
theorem KeepsBut.trans {X : Nat → Prop} {A B C : World} (h : KeepsBut X A B) (k : KeepsBut X B C) : KeepsBut X A C :=
  ⟨k.os.trans h.os, k.tape.trans h.tape, k.output.trans h.output, Nat.le_trans h.size k.size, fun i hi hx => (k.block i (Nat.lt_of_lt_of_le hi h.size) hx).trans (h.block i hi hx)⟩
theorem KeepsBut.of_grown {X : Nat → Prop} {A B : World} {row : Option Nat} (h : A.grownBy B row) (hr : ∀ r, row = some r → X r) : KeepsBut X A B :=
  ⟨h.os, h.tape, h.output, h.size, fun k hk hx => h.block k hk fun e => hx (hr k e.symm)⟩
theorem KeepsBut.of_below {X : Nat → Prop} {A B : World} (h : Below A.heap.size A B) : KeepsBut X A B := ⟨h.os, h.tape, h.output, h.size, fun k hk _ => h.block k hk⟩
theorem KeepsBut.setCell {X : Nat → Prop} (A : World) {g : Nat} (o : Nat) (v : Value) (hg : X g) : KeepsBut X A (A.setCell ⟨g, o, none⟩ v) :=
  ⟨rfl, rfl, rfl, by show A.heap.size ≤ (A.heap.modify _ _).size; rw [Array.size_modify]; exact Nat.le_refl _, fun k hk hx => Below.heap_setCell A ⟨g, o, none⟩ v k (fun e => hx (e ▸ hg))⟩
theorem KeepsBut.of_turns {X : Nat → Prop} {B : Nat} {A C : World} (h : Turns B A C) (hX : ∀ k, B ≤ k → k < B + 2 → X k) : KeepsBut X A C := by
  obtain ⟨k, o, o', h1, h2, hk, _, _, rfl⟩ := h
  exact .of_grown (grownBy_putObj' A k o') (fun r e => by cases e; exact hX k h1 h2)
theorem KeepsBut.below {X : Nat → Prop} {A C : World} {n₀ : Nat} (h : KeepsBut X A C) (hn : n₀ ≤ A.heap.size) (hX : ∀ k, X k → n₀ ≤ k) : Below n₀ A C :=
  ⟨h.os, h.tape, h.output, h.size, fun k hk => h.block k (by omega) (fun hx => by have := hX k hx; omega)⟩
theorem KeepsBut.at {X : Nat → Prop} {A C : World} (h : KeepsBut X A C) {k : Nat} {o : Obj} (hk : A.heap[k]? = some o) (hx : ¬ X k) : C.heap[k]? = some o := (h.block k (Array.getElem?_eq_some_iff.1 hk).1 hx).trans hk
theorem KeepsTwo.of_below {B n : Nat} {A C : World} (h : Below n A C) (hn : B + 2 ≤ n) : KeepsTwo B A C := fun k o h1 h2 hk _ => (h.block k (by omega)).trans hk
theorem Turns.below {B n : Nat} {A C : World} (h : Turns B A C) (hn : n ≤ B) (hs : n ≤ A.heap.size) : Below n A C := by
  obtain ⟨k, o, o', h1, h2, hk, _, _, rfl⟩ := h
  exact (Below.refl n A).grown (grownBy_putObj' A k o') hs (fun r e => by cases e; omega)
theorem Turns.at {B : Nat} {A C : World} (h : Turns B A C) {k : Nat} {o : Obj} (hk : A.heap[k]? = some o) (hx : k < B ∨ B + 2 ≤ k) : C.heap[k]? = some o := by
  obtain ⟨j, o1, o2, h1, h2, hj, _, _, rfl⟩ := h
  exact (World.putObj_heap_other (by omega)).trans hk
end Go.Proofs.Ytcklkngljapecaa.X
end

section
namespace Go.Proofs.Ytcklkngljapecaa.X
open Go.RowKit Go.Proofs.YtcklkngljapecaaW.PrintWords Go.Proofs.YtcklkngljapecaaW.PrintLast Go.Proofs.YtcklkngljapecaaW.PrintMore Go.Shelf
attribute [local go_sem] Oper.semAt_some
set_option linter.unusedVariables false
set_option linter.unusedSimpArgs false
def bitG (xs : List Int) (pre : List Int) (x : Int) (_ : World) : Prop := x = bitv (xs.getD (pre.length / 8) 0) (pre.length % 8)
set_option maxRecDepth 100000 in
set_option maxHeartbeats 2000000 in
theorem bits1_lays (F : Fence) (n : Nat) (hF : F.fn 31) (hro : F.round = none) (hn : 1 ≤ n) (l Bs n₀ c : Nat) (A : Option Addr) (xs : List Int) (w0 : World) (hC : Kd.C (Kd.int .u8) w0 A xs.length xs) (hlen : xs.length ≤ 1000000000000) (h0w : w0.heap.size = n₀) (J Jx : List Int → World → Prop)
    (hY : ∀ pre x W, J pre W → bitG xs pre x W → pre.length < 8 * xs.length → YieldAt F (n - 1) Try.prog l #[.int .i64 x] W fun e W' =>
      (e = .returned (.bool true) ∧ J (pre ++ [x]) W' ∧ Below n₀ W W') ∨ (e = .returned (.bool false) ∧ Jx (pre ++ [x]) W' ∧ Below n₀ W W'))
    (W : World) (hW : Below n₀ w0 W) (hBs : W.cell? ⟨Bs, 0, none⟩ = some (.slice A xs.length c)) (h0 : J [] W) :
    CallsIn F n Try.prog 31 #[.func (.yield l) #[] #[], .pointer (some ⟨Bs, 0, none⟩)] W fun e W' => (∃ v, e = .returned v) ∧
      ((∃ ys, ys = allB xs (8 * xs.length) ∧ J ys W') ∨ (∃ pre, (∃ m, m ≤ 8 * xs.length ∧ pre = allB xs m) ∧ Jx pre W')) := by
  refine callsIn_of_wp Try.func31 rfl hF ?_ hro
  simp only [Try.ntmps31, List.size_toArray, List.length_cons, List.length_nil, Nat.reduceAdd, Nat.reduceSub, Array.replicate_succ, Array.replicate_zero, List.push_toArray, List.append_toArray, List.nil_append, List.cons_append]
  have HC := Aside0.mk hC
  have HY := Aside0.mk hY
  have h0w := Aside0.mk h0w
  clear hC hY
  gi_wp2
  gi_loopw [8] (fun v8 wr => ∃ i : Nat, v8 = .int .i64 i ∧ i ≤ xs.length ∧ Aside0 (J (allB xs (8 * i)) wr) ∧ Aside0 (Below n₀ w0 wr)) (fun v8 _ => xs.length - (intOf v8).toNat)
  case atStart => exact ⟨0, rfl, Nat.zero_le _, ⟨h0⟩, ⟨hW⟩⟩
  case round =>
    obtain ⟨i, rfl, hi, HJ, HB⟩ := hrel
    by_cases hlt : i < xs.length
    · obtain ⟨ad, rfl, hcell⟩ := c_at (Kd.C_below HC.out (by have := HB.out; rw [← h0w.out] at this; exact this)) (i : Int) (by omega) (by omega)
      have e : rd xs (i : Int) = xs.getD i 0 := rfl
      rw [e, show ((i : Int)).toNat = i from rfl] at hcell
      obtain ⟨x, hx⟩ : ∃ x, x = xs.getD i 0 := ⟨_, rfl⟩
      rw [← hx] at hcell
      have Hx := Aside0.mk hx
      clear e hx
      gi_wp2
      obtain ⟨wo, rfl⟩ : ∃ wo : World, wo = wr := ⟨_, rfl⟩
      gi_loopw [12] (fun v12 wr => ∃ t : Nat, v12 = .int .i64 t ∧ t ≤ 8 ∧ Aside0 (J (allB xs (8 * i + t)) wr) ∧ Aside0 (Below n₀ w0 wr)) (fun v12 _ => 8 - (intOf v12).toNat)
      case atStart => exact ⟨0, rfl, by omega, by simpa using HJ, HB⟩
      case round =>
        clear HJ HB hcell
        obtain ⟨t, rfl, ht, HJ, HB⟩ := hrel
        by_cases hlt8 : t < 8
        · obtain ⟨fn, tmps, assign, body, hy, hR⟩ := HY.out _ (bitv x t) wr HJ.out (by rw [bitG, allB_length, Hx.out, show (8 * i + t) / 8 = i by omega, show (8 * i + t) % 8 = t by omega]) (by rw [allB_length]; omega)
          have hJ1 := Aside0.mk (show allB xs (8 * i + t) ++ [bitv x t] = allB xs (8 * i + (t + 1)) by rw [← Nat.add_assoc, allB_succ, Hx.out, show (8 * i + t) / 8 = i by omega, show (8 * i + t) % 8 = t by omega])
          have hml := Aside0.mk (show 8 * i + (t + 1) ≤ 8 * xs.length by omega)
          simp only [bitv] at hy
          clear HJ
          gi_wp2
          refine hR.mono ?_
          rintro e W3 (⟨rfl, hJ3, hk3⟩ | ⟨rfl, hJx3, _⟩)
          · rw [hJ1.out] at hJ3
            have HJ3 := Aside0.mk hJ3
            have HB3 := Aside0.mk (HB.out.trans hk3)
            clear hJ3 hk3
            gi_wp2
            go_roundw
            case rel => exact ⟨t + 1, by go_num, by omega, HJ3, HB3⟩
            case measure => simp [intOf]; omega
          · rw [hJ1.out] at hJx3
            have HJ3 := Aside0.mk hJx3
            clear hJx3
            gi_wp2
            refine bodyPost_ret (results_none rfl _ _ _) rfl ?_
            exact ⟨⟨_, rfl⟩, .inr ⟨_, ⟨8 * i + (t + 1), hml.out, rfl⟩, HJ3.out⟩⟩
        · obtain rfl : t = 8 := by omega
          gi_wp2
          go_roundw
          case rel => exact ⟨i + 1, by go_num, by omega, by rw [show 8 * (i + 1) = 8 * i + 8 by omega]; exact HJ, HB⟩
          case measure => simp [intOf]; omega
    · obtain rfl : i = xs.length := by omega
      gi_wp2
      go_end0
      exact ⟨⟨_, rfl⟩, .inl ⟨_, rfl, HJ.out⟩⟩
theorem bits_lays (F : Fence) (n : Nat) (hF : F.fn 31) (hro : F.round = none) (hn : 1 ≤ n) (Bs c : Nat) (A : Option Addr) (xs : List Int) (w0 w : World) (Ab : World → World → Prop) (hC : Kd.C (Kd.int .u8) w0 A xs.length xs) (hlen : xs.length ≤ 1000000000000) (hb : Below w0.heap.size w0 w) (hBs : Bs < w.heap.size)
    (hc : w.cell? ⟨Bs, 0, none⟩ = some (.slice A xs.length c)) (o1 o2 : Obj) :
    SeqLays F n Try.prog 31 #[.pointer (some ⟨Bs, 0, none⟩)] (fun x : Int => #[Value.int .i64 x]) Ab (Below w0.heap.size) (bitG xs) (fun ys => ys = allB xs (8 * xs.length)) (fun pre => ∃ m, m ≤ 8 * xs.length ∧ pre = allB xs m) (8 * xs.length) ((w.alloc o1).alloc o2) := fun l J Jx _ _ hY h0 =>
  bits1_lays F n hF hro hn l Bs w0.heap.size c A xs w0 hC hlen rfl J Jx hY _ (((hb.alloc hb.size _).alloc (by have := hb.size; simp; omega) _)) (by
    have h1 : (w.alloc o1).cell? ⟨Bs, 0, none⟩ = some (.slice A xs.length c) := (World.cell?_alloc_lt _ _ _ hBs).trans hc
    exact (World.cell?_alloc_lt _ _ _ (by simp; omega)).trans h1) h0
end Go.Proofs.Ytcklkngljapecaa.X
end

section
namespace Go.Proofs.Ytcklkngljapecaa.X
open Go.RowKit
set_option linter.unusedVariables false
variable {P : Program}
theorem upon_in {o : Oper} {a : Act} {K : Act → World → Prop} {Q : Exit → Act → World → Prop} (l n : Nat) : ∀ {r : Result Next}, o.upon P a K Q r → o.uponIn (Fence.wide.inRound l) n P a K Q r := by
  intro r h
  cases r with
  | ok x w' =>
    cases x <;> first
      | exact h
      | exact ⟨fun e => (by cases e), CallsIn.inRound l (callsIn_wide.2 h)⟩
      | exact ⟨fun e => (by cases e), fun c cs _ => let ⟨v, w2, q, s⟩ := h c cs; ⟨v, w2, q, stepsIn_wide.2 s⟩⟩
      | exact h.elim
  | halt x w' => cases x <;> first | exact h | exact h.elim
def noDefer : Op → Bool
  | .defer _ => false
  | _ => true
theorem ops_in {ops : Array Oper} {Q : Exit → Act → World → Prop} (l n : Nat) (hq : ¬ LetsOut Q) (hp : ∀ (i : Nat) (o : Oper), ops[i]? = some o → noDefer o.op = true) :
    ∀ (L : List Nat) (a : Act) (w : World), wpOps P ops Q L a w → wpOpsIn (Fence.wide.inRound l) n P ops Q L a w
  | [], a, w, h => h
  | i :: L, a, w, h => by
    unfold wpOps at h
    unfold wpOpsIn
    cases ho : ops[i]? with
    | none => simp only [ho] at h ⊢; exact ops_in l n hq hp L a w h
    | some o =>
      have hpo := hp i o ho
      simp only [ho] at h ⊢
      by_cases hw : Region.wanted o (yielded ops a.tmps) = true
      · rw [if_pos hw] at h ⊢
        refine ⟨fun _ _ => trivial, ?_⟩
        rw [Oper.semAt_eq _ _ o (fun c hc => by rw [hc] at hpo; cases hpo)]
        refine upon_in l n ?_
        unfold Oper.wp at h
        have mono : ∀ {r : Result Next}, o.upon P a (wpOps P ops Q L) Q r → o.upon P a (wpOpsIn (Fence.wide.inRound l) n P ops Q L) Q r := by
          intro r h
          cases r with
          | ok x w' =>
            cases x <;> first
              | exact ops_in l n hq hp L _ _ h
              | exact Calls.mono h (fun e w2 he => by cases e <;> first | exact ops_in l n hq hp L _ _ he | exact he)
              | exact Rows.mono h (fun _ _ he => ops_in l n hq hp L _ _ he)
              | exact h
          | halt x w' => cases x <;> exact h
        exact mono (h.resolve_right fun x => hq x.2)
      · rw [if_neg hw] at h ⊢
        exact ⟨fun _ _ => trivial, ops_in l n hq hp L _ _ h⟩
theorem wpIn_region_round {ops : Array Oper} {Q : Exit → Act → World → Prop} {S : World → Prop} {id l n : Nat} {a : Act} {w : World} (hm : P.follows .mixedOrders = true) (hp : ops.toList.all (fun o => noDefer o.op) = true) (hq : ¬ LetsOut Q) (hS : S w.drew)
    (h : S w.drew → wpAnyH P .any ops Q S ops.size (Array.replicate ops.size false) a w.drew) : (Code.region id ops true).wpIn (Fence.wide.inRound l) n P Q a w := by
  refine wpIn_region_draw fun t => ?_
  simp only [Region.schedule, hm, Bool.true_or, if_true]
  refine ops_in l n hq (fun i o ho => ?_) _ _ _ (wpAny_sound ops.size t _ a _ (wpAny_of_held _ _ _ _ (h hS)))
  have : o ∈ ops.toList := Array.mem_toList_iff.2 (Array.mem_of_getElem? ho)
  exact List.all_eq_true.1 hp o this
end Go.Proofs.Ytcklkngljapecaa.X
end

section
namespace Go.Proofs.Ytcklkngljapecaa.X
open Go.RowKit Go.Proofs.YtcklkngljapecaaW.PrintWords Go.Proofs.YtcklkngljapecaaW.PrintLast Go.Proofs.YtcklkngljapecaaW.PrintMore
attribute [local go_sem] max2_int min2_int max_two min_two max_three min_three max_four min_four
set_option linter.unusedVariables false
set_option linter.unusedSimpArgs false
def marquetryref01_Size.j0 : Nat → Int → Int → Bool → Option (Int × Int)
 | 0, _, _, _ => none
 | k + 1, x0, x1, x15 => if x15 = true then (some (0, 2)) else (if x1 > 1048576 then (some (0, 3)) else (if (wrap64 (Int.tdiv (wrap64 ((wrap64 (x1 * x0)) + 7)) 8)) > 1048576 then (some (0, 3)) else (some (wrap64 (Int.tdiv (wrap64 ((wrap64 (x1 * x0)) + 7)) 8), 0))))
def marquetryref01_Size.f (k : Nat) (a0 : Int) (a1 : Int) : Option (Int × Int) := if a0 < 0 then (marquetryref01_Size.j0 k a0 a1 true) else (if a0 > 64 then (marquetryref01_Size.j0 k a0 a1 true) else (marquetryref01_Size.j0 k a0 a1 (decide (a1 < 0))))
theorem marquetryref01_Size.mono_l : ∀ k, (∀ y0 y1 y2, LeO (marquetryref01_Size.j0 k y0 y1 y2) (marquetryref01_Size.j0 (k + 1) y0 y1 y2))
 | 0 => fun _ _ _ r h => by simp [marquetryref01_Size.j0] at h
 | k + 1 => by
  have ih0 := marquetryref01_Size.mono_l k
  ·intro y0 y1 y2
   unfold marquetryref01_Size.j0
   repeat' first
   | (with_reducible exact ih0 _ _ _)
   | (with_reducible exact LeO.refl _)
   | (with_reducible exact LeO.none _)
   | (with_reducible refine LeO.ite ?_ ?_)
   | (with_reducible refine LeO.bind ?_ (fun _ => ?_))
   | exact ih0 _ _ _
   | exact LeO.none _
   | refine LeO.ite ?_ ?_
   | refine LeO.bind ?_ (fun _ => ?_)
theorem marquetryref01_Size.mono : ∀ a0 a1 k, LeO (marquetryref01_Size.f k a0 a1) (marquetryref01_Size.f (k + 1) a0 a1) := by
 intro a0 a1 k
 have ih0 := marquetryref01_Size.mono_l k
 unfold marquetryref01_Size.f
 repeat' first
   | (with_reducible exact ih0 _ _ _)
   | (with_reducible exact LeO.refl _)
   | (with_reducible exact LeO.none _)
   | (with_reducible refine LeO.ite ?_ ?_)
   | (with_reducible refine LeO.bind ?_ (fun _ => ?_))
   | exact ih0 _ _ _
   | exact LeO.none _
   | refine LeO.ite ?_ ?_
   | refine LeO.bind ?_ (fun _ => ?_)
set_option maxHeartbeats 8000000 in
set_option maxRecDepth 100000 in
theorem marquetryref01_Size.calls (k : Nat) (a0 : Int) (a1 : Int) (r1 : Int) (r2 : Int) (w : World) (h : marquetryref01_Size.f k a0 a1 = some (r1, r2)) :
  Calls Try.prog 36 #[.int .i64 a0, .int .i64 a1] w fun e w' => e = .returned (.tuple #[.int .i64 r1, .int .i64 r2]) ∧ Drawn0 w w' := by
 have H : (if a0 < 0 then (marquetryref01_Size.j0 k a0 a1 true) else (if a0 > 64 then (marquetryref01_Size.j0 k a0 a1 true) else (marquetryref01_Size.j0 k a0 a1 (decide (a1 < 0))))) = some (r1, r2) := h
 clear h
 have HC3 := Aside0.mk H
 clear H
 go_enter Try.func36, Try.ntmps36
 go_upto_region 1 with (fail)
 go_cut [15] (fun v15 wc => ∃ (kq : Nat) (x15_2 : Bool), v15 = .bool x15_2 ∧ Aside0 (marquetryref01_Size.j0 kq a0 a1 x15_2 = some (r1, r2)) ∧ Aside0 (kq ≤ k) ∧ Drawn0 w wc)
 case first =>
  have H := HC3.out
  clear HC3
  by_cases c4 : a0 < 0
  ·rw [if_pos c4] at H
   have c4b0 : decide (a0 < 0) = true := decide_eq_true c4
   clear c4
   (first | rw [c4b0] | (simp only [i64_w, i32_w]; rw [c4b0]) | skip)
   have H' := Aside0.mk H
   clear H
   go_wp2
   go_meet
   case rel => exact ⟨_, (true), (by first | rfl | (simp; done) | (simp [*]; done)), H', ⟨by first | omega | exact Nat.le_refl _⟩, by repeat (first | exact Drawn0.refl _ | apply Drawn0.step)⟩
  ·rw [if_neg c4] at H
   have c4b0 : decide (a0 < 0) = false := decide_eq_false c4
   clear c4
   (first | rw [c4b0] | (simp only [i64_w, i32_w]; rw [c4b0]) | skip)
   by_cases c5 : a0 > 64
   ·rw [if_pos c5] at H
    have c5b0 : decide (64 < a0) = true := decide_eq_true c5
    clear c5
    have H' := Aside0.mk H
    clear H
    go_wp2
    go_meet
    case rel => exact ⟨_, (true), (by first | rfl | (simp; done) | (simp [*]; done)), H', ⟨by first | omega | exact Nat.le_refl _⟩, by repeat (first | exact Drawn0.refl _ | apply Drawn0.step)⟩
   ·rw [if_neg c5] at H
    have c5b0 : decide (64 < a0) = false := decide_eq_false c5
    clear c5
    have H' := Aside0.mk H
    clear H
    go_wp2
    go_meet
    case rel => exact ⟨_, (decide (a1 < 0)), (by first | rfl | (simp; done) | (simp [*]; done)), H', ⟨by first | omega | exact Nat.le_refl _⟩, by repeat (first | exact Drawn0.refl _ | apply Drawn0.step)⟩
 case rest =>
  clear HC3
  try clear p2
  try clear c3
  try clear c4
  try clear c4b0
  try clear c5
  try clear c5b0
  obtain ⟨kq, x15_2, rfl, HA, HJ2, ⟨mc2, rfl⟩⟩ := hcut
  cases kq with
  | zero => exact absurd HA.out (by simp [marquetryref01_Size.j0])
  | succ kj2 =>
   have H := HA.out
   clear HA
   simp only [marquetryref01_Size.j0] at H
   by_cases c6 : x15_2 = true
   ·subst c6
    have H1 : (some (0, 2)) = some (r1, r2) := by rw [if_pos rfl] at H; exact H
    clear H
    have H := H1
    clear H1
    simp only [Option.some.injEq, Prod.mk.injEq] at H
    obtain ⟨rfl, rfl⟩ := H
    go_wp2
    go_ret2
    exact ⟨by first | rfl | (simp; done) | (simp [*]; done), by repeat (first | exact Drawn0.refl _ | apply Drawn0.step)⟩
   ·replace c6 := Bool.eq_false_iff.mpr c6
    subst c6
    have H1 : (if a1 > 1048576 then (some (0, 3)) else (if (wrap64 (Int.tdiv (wrap64 ((wrap64 (a1 * a0)) + 7)) 8)) > 1048576 then (some (0, 3)) else (some (wrap64 (Int.tdiv (wrap64 ((wrap64 (a1 * a0)) + 7)) 8), 0)))) = some (r1, r2) := by rw [if_neg (show ¬ (false = true) by decide)] at H; exact H
    clear H
    have H := H1
    clear H1
    by_cases c7 : a1 > 1048576
    ·rw [if_pos c7] at H
     have c7b0 : decide (1048576 < a1) = true := decide_eq_true c7
     clear c7
     simp only [Option.some.injEq, Prod.mk.injEq] at H
     obtain ⟨rfl, rfl⟩ := H
     go_wp2
     go_ret2
     exact ⟨by first | rfl | (simp; done) | (simp [*]; done), by repeat (first | exact Drawn0.refl _ | apply Drawn0.step)⟩
    ·rw [if_neg c7] at H
     have c7b0 : decide (1048576 < a1) = false := decide_eq_false c7
     clear c7
     by_cases c8 : (wrap64 (Int.tdiv (wrap64 ((wrap64 (a1 * a0)) + 7)) 8)) > 1048576
     ·rw [if_pos c8] at H
      have c8b0 : decide (1048576 < (wrap64 (Int.tdiv (wrap64 ((wrap64 (a1 * a0)) + 7)) 8))) = true := decide_eq_true c8
      clear c8
      simp only [Option.some.injEq, Prod.mk.injEq] at H
      obtain ⟨rfl, rfl⟩ := H
      go_wp2
      go_ret2
      exact ⟨by first | rfl | (simp; done) | (simp [*]; done), by repeat (first | exact Drawn0.refl _ | apply Drawn0.step)⟩
     ·rw [if_neg c8] at H
      have c8b0 : decide (1048576 < (wrap64 (Int.tdiv (wrap64 ((wrap64 (a1 * a0)) + 7)) 8))) = false := decide_eq_false c8
      clear c8
      simp only [Option.some.injEq, Prod.mk.injEq] at H
      obtain ⟨rfl, rfl⟩ := H
      go_wp2
      go_ret2
      exact ⟨by first | rfl | (simp; done) | (simp [*]; done), by repeat (first | exact Drawn0.refl _ | apply Drawn0.step)⟩
end Go.Proofs.Ytcklkngljapecaa.X
end

section
namespace Go.Proofs.Ytcklkngljapecaa.X
open Go.RowKit Go.Proofs.YtcklkngljapecaaW.PrintWords Go.Proofs.YtcklkngljapecaaW.PrintLast Go.Proofs.YtcklkngljapecaaW.PrintMore
attribute [local go_sem] max2_int min2_int max_two min_two max_three min_three max_four min_four
set_option linter.unusedVariables false
set_option linter.unusedSimpArgs false
def marquetryref01_Bit.l0 : Nat → Int → Int → Int → Option (Int)
 | 0, _, _, _ => none
 | k + 1, x1, x5, x6 => if x6 < (Int.tmod x1 8) then (marquetryref01_Bit.l0 k x1 ((Int.tdiv x5 2) % 256) (wrap64 (x6 + 1))) else (some (IntKind.u64.wrap (Int.tmod x5 2)))
def marquetryref01_Bit.f (k : Nat) (l0 : List Int) (a1 : Int) : Option (Int) := if 0 ≤ (wrap64 (Int.tdiv a1 8)) then (if (wrap64 (Int.tdiv a1 8)) < (l0.length : Int) then (marquetryref01_Bit.l0 k a1 (rd l0 (wrap64 (Int.tdiv a1 8))) 0) else (none)) else (none)
theorem marquetryref01_Bit.mono_l : ∀ k, (∀ y0 y1 y2, LeO (marquetryref01_Bit.l0 k y0 y1 y2) (marquetryref01_Bit.l0 (k + 1) y0 y1 y2))
 | 0 => fun _ _ _ r h => by simp [marquetryref01_Bit.l0] at h
 | k + 1 => by
  have ih0 := marquetryref01_Bit.mono_l k
  ·intro y0 y1 y2
   unfold marquetryref01_Bit.l0
   repeat' first
   | (with_reducible exact ih0 _ _ _)
   | (with_reducible exact LeO.refl _)
   | (with_reducible exact LeO.none _)
   | (with_reducible refine LeO.ite ?_ ?_)
   | (with_reducible refine LeO.bind ?_ (fun _ => ?_))
   | exact ih0 _ _ _
   | exact LeO.none _
   | refine LeO.ite ?_ ?_
   | refine LeO.bind ?_ (fun _ => ?_)
theorem marquetryref01_Bit.mono : ∀ a0 a1 k, LeO (marquetryref01_Bit.f k a0 a1) (marquetryref01_Bit.f (k + 1) a0 a1) := by
 intro a0 a1 k
 have ih0 := marquetryref01_Bit.mono_l k
 unfold marquetryref01_Bit.f
 repeat' first
   | (with_reducible exact ih0 _ _ _)
   | (with_reducible exact LeO.refl _)
   | (with_reducible exact LeO.none _)
   | (with_reducible refine LeO.ite ?_ ?_)
   | (with_reducible refine LeO.bind ?_ (fun _ => ?_))
   | exact ih0 _ _ _
   | exact LeO.none _
   | refine LeO.ite ?_ ?_
   | refine LeO.bind ?_ (fun _ => ?_)
set_option maxHeartbeats 8000000 in
set_option maxRecDepth 100000 in
theorem marquetryref01_Bit.calls (k : Nat) (A0 : Option Addr) (c0 : Nat) (l0 : List Int) (a1 : Int) (r : Int) (w : World) (hr0 : Kd.C (Kd.int .u8) w A0 l0.length l0) (hc0 : l0.length ≤ c0) (h : marquetryref01_Bit.f k l0 a1 = some r) :
  Calls Try.prog 37 #[.slice A0 l0.length c0, .int .i64 a1] w fun e w' => e = .returned (.int .u64 r) ∧ Drawn0 w w' := by
 have HR0 := Aside0.mk hr0
 have HC0 := Aside0.mk hc0
 clear hr0 hc0
 have H : (if 0 ≤ (wrap64 (Int.tdiv a1 8)) then (if (wrap64 (Int.tdiv a1 8)) < (l0.length : Int) then (marquetryref01_Bit.l0 k a1 (rd l0 (wrap64 (Int.tdiv a1 8))) 0) else (none)) else (none)) = some r := h
 clear h
 obtain ⟨ji3, hji3⟩ : ∃ j_ : Int, (wrap64 (Int.tdiv a1 8)) = j_ := ⟨_, rfl⟩
 replace H : (if 0 ≤ (ji3) then (if (ji3) < (l0.length : Int) then (marquetryref01_Bit.l0 k a1 (rd l0 (ji3)) 0) else (none)) else (none)) = some r := by first | (rw [hji3] at H; exact H) | (simp only [hji3] at H ⊢; exact H)
 have hji3w : (IntKind.i64.wrap (Int.tdiv a1 8)) = ji3 := (i64_w _).trans hji3
 by_cases c4 : 0 ≤ (ji3)
 ·rw [if_pos c4] at H
  have c4b0 : decide (0 ≤ (ji3)) = true := decide_eq_true c4
  clear c4
  by_cases c5 : (ji3) < (l0.length : Int)
  ·rw [if_pos c5] at H
   have c5b0 : decide ((ji3) < (l0.length : Int)) = true := decide_eq_true c5
   clear c5
   have H' := Aside0.mk H
   clear H
   have p115 : 0 ≤ ((ji3) : Int) := of_decide_eq_true (by first | (with_reducible assumption) | assumption)
   have q115 : (ji3) < (l0.length : Int) := of_decide_eq_true (by first | (with_reducible assumption) | assumption)
   obtain ⟨ad115, e115, hx115_0⟩ := Kd.at_int HR0.out (ji3) p115 q115
   cases e115
   replace p115 := eq_true p115
   replace q115 := eq_true q115
   go_enter Try.func37, Try.ntmps37
   go_wp2
   go_loopg [5, 6] k (fun kq v5 v6 w' => ∃ (x5_1 : Int) (x6_1 : Int), v5 = .int .u8 x5_1 ∧ v6 = .int .i64 x6_1 ∧ Aside0 (marquetryref01_Bit.l0 kq a1 x5_1 x6_1 = some r) ∧ Aside0 (kq ≤ k) ∧ Drawn0 w w')
   case atStart => exact ⟨(rd l0 (ji3)), (0), (by first | rfl | (simp; done) | (simp only [← hji3] <;> (first | rfl | simp)) | (simp [*]; done)), (by first | rfl | (simp; done) | (simp [*]; done)), H', ⟨Nat.le_refl _⟩, by repeat (first | exact Drawn0.refl _ | apply Drawn0.step)⟩
   case round =>
    clear H'
    try clear p1
    try clear q1
    try clear hx1
    try clear p2
    try clear c3
    try clear c4
    try clear c4b0
    try clear c5
    try clear c5b0
    try clear hx115_0
    try clear p115
    try clear q115
    obtain ⟨x5_1, x6_1, rfl, rfl, HA, HK1, ⟨m1, rfl⟩⟩ := hrel
    cases gk with
    | zero => exact absurd HA.out (by simp [marquetryref01_Bit.l0])
    | succ k1 =>
     have H := HA.out
     clear HA
     simp only [marquetryref01_Bit.l0] at H
     by_cases c6 : x6_1 < (Int.tmod a1 8)
     ·rw [if_pos c6] at H
      have c6b0 : decide (x6_1 < (Int.tmod a1 8)) = true := decide_eq_true c6
      clear c6
      have H' := Aside0.mk H
      clear H
      go_wp2
      go_roundg k1
      case measure => have := HK1.out; omega
      case rel => exact ⟨((Int.tdiv x5_1 2) % 256), (wrap64 (x6_1 + 1)), (by first | rfl | (simp; done) | (simp [*]; done)), (by first | rfl | (simp; done) | (simp [*]; done)), H', ⟨by have := HK1.out; omega⟩, by repeat (first | exact Drawn0.refl _ | apply Drawn0.step)⟩
     ·rw [if_neg c6] at H
      have c6b0 : decide (x6_1 < (Int.tmod a1 8)) = false := decide_eq_false c6
      clear c6
      obtain rfl := Option.some.inj H
      go_wp2
      go_ret
      exact ⟨by first | rfl | (simp; done) | (simp only [← hji3] <;> (first | rfl | simp)) | (simp [*]; done), by repeat (first | exact Drawn0.refl _ | apply Drawn0.step)⟩
  ·rw [if_neg c5] at H
   exact absurd H (by simp)
 ·rw [if_neg c4] at H
  exact absurd H (by simp)
end Go.Proofs.Ytcklkngljapecaa.X
end
