/- DeltaReads: texts of this seat in one (wip/merge.py): X30, X31, X33, Nx, Px, Ma, Mc, Md, Me, Mf, Mr, Ms, Ga, Gr, Mu, Gq, Mt, Gz. -/
import Derived.Test.YtbncfhmfohpfbaaGDeltaReads0
import Derived.Test.YtbncfhmfohpfbaaGDeltaReads3
import Derived.Test.YtbncfhmfohpfbaaGDeltaReads2
import Derived.Lib.BitFns
import Derived.Laws.MathBits
import Derived.Test.YtbncfhmfohpfbaaGDeltaReads1
import Derived.Deep.RegionHeld3
section
namespace Go.Proofs.Ytbncfhmfohpfbaa.X
open Go.RowKit Go.Proofs.YtbncfhmfohpfbaaW.PrintWords Go.Proofs.YtbncfhmfohpfbaaW.PrintLast Go.Proofs.YtbncfhmfohpfbaaW.PrintMore
attribute [local go_sem] max2_int min2_int max_two min_two max_three min_three max_four min_four
set_option linter.unusedVariables false
set_option linter.unusedSimpArgs false
def marquetryref13_Reader_next.j0 : Nat → Bool → List Int → Int → Int → Option (Int × Int × Int)
 | 0, _, _, _, _ => none
 | k + 1, x19, x1000, x1001, x1002 => if x19 = true then ((marquetryref13_Reader_fail.f x1000 x1001 x1002 6).bind fun bt289 => (if bt289.2 = 0 then (if 0 ≤ (wrap64 ((wrap64 (bt289.1 + 1)) - 1)) then (if (wrap64 ((wrap64 (bt289.1 + 1)) - 1)) < (x1000.length : Int) then (some (rd x1000 (wrap64 ((wrap64 (bt289.1 + 1)) - 1)), wrap64 (bt289.1 + 1), bt289.2)) else (none)) else (none)) else (some (0, bt289.1, bt289.2)))) else (if x1002 = 0 then (if 0 ≤ (wrap64 ((wrap64 (x1001 + 1)) - 1)) then (if (wrap64 ((wrap64 (x1001 + 1)) - 1)) < (x1000.length : Int) then (some (rd x1000 (wrap64 ((wrap64 (x1001 + 1)) - 1)), wrap64 (x1001 + 1), x1002)) else (none)) else (none)) else (some (0, x1001, x1002)))
def marquetryref13_Reader_next.f (k : Nat) (s0_0 : List Int) (s0_1 : Int) (s0_2 : Int) : Option (Int × Int × Int) := if s0_2 = 0 then (marquetryref13_Reader_next.j0 k (decide (s0_1 ≥ (s0_0.length : Int))) s0_0 s0_1 s0_2) else (marquetryref13_Reader_next.j0 k false s0_0 s0_1 s0_2)
theorem marquetryref13_Reader_next.mono_l : ∀ k, (∀ y0 y1 y2 y3, LeO (marquetryref13_Reader_next.j0 k y0 y1 y2 y3) (marquetryref13_Reader_next.j0 (k + 1) y0 y1 y2 y3))
 | 0 => fun _ _ _ _ r h => by simp [marquetryref13_Reader_next.j0] at h
 | k + 1 => by
  have ih0 := marquetryref13_Reader_next.mono_l k
  ·intro y0 y1 y2 y3
   unfold marquetryref13_Reader_next.j0
   repeat' first
   | (with_reducible exact ih0 _ _ _ _)
   | (with_reducible exact LeO.refl _)
   | (with_reducible exact LeO.none _)
   | (with_reducible refine LeO.ite ?_ ?_)
   | (with_reducible refine LeO.bind ?_ (fun _ => ?_))
   | exact ih0 _ _ _ _
   | exact LeO.none _
   | refine LeO.ite ?_ ?_
   | refine LeO.bind ?_ (fun _ => ?_)
theorem marquetryref13_Reader_next.mono : ∀ a0 a1 a2 k, LeO (marquetryref13_Reader_next.f k a0 a1 a2) (marquetryref13_Reader_next.f (k + 1) a0 a1 a2) := by
 intro a0 a1 a2 k
 have ih0 := marquetryref13_Reader_next.mono_l k
 unfold marquetryref13_Reader_next.f
 repeat' first
   | (with_reducible exact ih0 _ _ _ _)
   | (with_reducible exact LeO.refl _)
   | (with_reducible exact LeO.none _)
   | (with_reducible refine LeO.ite ?_ ?_)
   | (with_reducible refine LeO.bind ?_ (fun _ => ?_))
   | exact ih0 _ _ _ _
   | exact LeO.none _
   | refine LeO.ite ?_ ?_
   | refine LeO.bind ?_ (fun _ => ?_)
set_option maxHeartbeats 8000000 in
set_option maxRecDepth 100000 in
theorem marquetryref13_Reader_next.calls (k : Nat) (g : Nat) (s0_0 : List Int) (s0_1 : Int) (s0_2 : Int) (r1 : Int) (r2 : Int) (r3 : Int) (w0 w : World) (hI : IsS76 w0 w g s0_0 s0_1 s0_2) (hB : Below w0.heap.size w0 w) (h : marquetryref13_Reader_next.f k s0_0 s0_1 s0_2 = some (r1, r2, r3)) :
  Calls Try.prog 44 #[.pointer (some ⟨g, 0, none⟩)] w fun e w' => e = .returned (.int .u8 r1) ∧ IsS76 w0 w' g s0_0 r2 r3 ∧ Below w0.heap.size w0 w' ∧ KeepBut w w' g none := by
 have HI0 := Aside0.mk hI
 have HK := Aside0.mk (KeepBut.refl w g none)
 have HL := Aside0.mk hB.size
 clear hI
 have HW0 := Aside0.mk hB.size
 have HB := Aside0.mk hB
 clear hB
 have H : (if s0_2 = 0 then (marquetryref13_Reader_next.j0 k (decide (s0_1 ≥ (s0_0.length : Int))) s0_0 s0_1 s0_2) else (marquetryref13_Reader_next.j0 k false s0_0 s0_1 s0_2)) = some (r1, r2, r3) := h
 clear h
 have HC2 := Aside0.mk H
 clear H
 go_enter Try.func44, Try.ntmps44
 go_upto_region 1 with (fail)
 repeat (go_quiet (fail); go_upto_region 1 with (fail))
 go_cut [19] (fun v19 wc => ∃ (kq : Nat) (x19_1 : Bool), v19 = .bool x19_1 ∧ Aside0 (marquetryref13_Reader_next.j0 kq x19_1 s0_0 s0_1 s0_2 = some (r1, r2, r3)) ∧ Aside0 (kq ≤ k) ∧ Aside0 (IsS76 w0 wc g s0_0 s0_1 s0_2) ∧ Aside0 (KeepBut w wc g none) ∧ Aside0 (Below w0.heap.size w0 wc))
 case first =>
  have H := HC2.out
  clear HC2
  by_cases c3 : s0_2 = 0
  ·rw [if_pos c3] at H
   have c3b0 : (s0_2 == 0) = true := beq_iff_eq.mpr c3
   have c3b1 : (s0_2 != 0) = false := bne_eq_false_iff_eq.mpr c3
   clear c3
   (first | rw [c3b0] | (simp only [i64_w, i32_w]; rw [c3b0]) | skip)
   have H' := Aside0.mk H
   clear H
   obtain ⟨ASz4_0, cSz4_0, HGz4, hgz4, HSz4_0⟩ := HI0.out
   have hcz4_0 := cellS76_0 HGz4
   have hcz4_1 := cellS76_1 HGz4
   have hcz4_2 := cellS76_2 HGz4
   have hfz4_1 := blk_frozen HGz4 1
   have hfz4_2 := blk_frozen HGz4 2
   clear HGz4 hgz4
   go_wp2
   repeat (go_quiet (fail); try go_wp2)
   go_meet
   case rel => exact ⟨_, (decide (s0_1 ≥ (s0_0.length : Int))), (by first | rfl | (simp; done) | (simp [*]; done)), H', ⟨by first | omega | exact Nat.le_refl _⟩, ⟨by repeat (first | (with_reducible first | exact HI0.out | apply IsS76.alloc | apply IsS76.drewN | apply IsS76.drew | apply IsS76.set_1 | apply IsS76.set_2) | exact HI0.out)⟩, ⟨by repeat (first | (with_reducible first | exact HK.out | apply KeepBut.set_ | apply keep_drewN | apply keep_drew | apply keep_alloc) | exact HK.out)⟩, ⟨by repeat (first | (with_reducible first | exact HB.out | apply below_alloc | apply pw_below_drewN | apply below_drew1 | refine below_set ?_ (IsS76.ge HI0.out)) | exact HB.out)⟩⟩
  ·rw [if_neg c3] at H
   have c3b0 : (s0_2 == 0) = false := beq_eq_false_iff_ne.mpr c3
   have c3b1 : (s0_2 != 0) = true := bne_iff_ne.mpr c3
   (first | rw [c3b0] | (simp only [i64_w, i32_w]; rw [c3b0]) | skip)
   have H' := Aside0.mk H
   clear H
   obtain ⟨ASz5_0, cSz5_0, HGz5, hgz5, HSz5_0⟩ := HI0.out
   have hcz5_0 := cellS76_0 HGz5
   have hcz5_1 := cellS76_1 HGz5
   have hcz5_2 := cellS76_2 HGz5
   have hfz5_1 := blk_frozen HGz5 1
   have hfz5_2 := blk_frozen HGz5 2
   clear HGz5 hgz5
   go_wp2
   repeat (go_quiet (fail); try go_wp2)
   go_meet
   case rel => exact ⟨_, (false), (by first | rfl | (simp; done) | (simp [*]; done)), H', ⟨by first | omega | exact Nat.le_refl _⟩, ⟨by repeat (first | (with_reducible first | exact HI0.out | apply IsS76.alloc | apply IsS76.drewN | apply IsS76.drew | apply IsS76.set_1 | apply IsS76.set_2) | exact HI0.out)⟩, ⟨by repeat (first | (with_reducible first | exact HK.out | apply KeepBut.set_ | apply keep_drewN | apply keep_drew | apply keep_alloc) | exact HK.out)⟩, ⟨by repeat (first | (with_reducible first | exact HB.out | apply below_alloc | apply pw_below_drewN | apply below_drew1 | refine below_set ?_ (IsS76.ge HI0.out)) | exact HB.out)⟩⟩
 case rest =>
  clear HC2
  try clear p2
  try clear c3
  try clear c3b0
  try clear c3b1
  try clear c4
  try clear hcz4_0
  try clear hcz4_1
  try clear hcz4_2
  try clear hcz5_0
  try clear hcz5_1
  try clear hcz5_2
  try clear hfz4_1
  try clear hfz4_2
  try clear hfz5_1
  try clear hfz5_2
  obtain ⟨kq, x19_1, rfl, HA, HJ1, HI0, HK, HB⟩ := hcut
  cases kq with
  | zero => exact absurd HA.out (by simp [marquetryref13_Reader_next.j0])
  | succ kj1 =>
   have H := HA.out
   clear HA
   simp only [marquetryref13_Reader_next.j0] at H
   by_cases c6 : x19_1 = true
   ·subst c6
    have H1 : ((marquetryref13_Reader_fail.f s0_0 s0_1 s0_2 6).bind fun bt289 => (if bt289.2 = 0 then (if 0 ≤ (wrap64 ((wrap64 (bt289.1 + 1)) - 1)) then (if (wrap64 ((wrap64 (bt289.1 + 1)) - 1)) < (s0_0.length : Int) then (some (rd s0_0 (wrap64 ((wrap64 (bt289.1 + 1)) - 1)), wrap64 (bt289.1 + 1), bt289.2)) else (none)) else (none)) else (some (0, bt289.1, bt289.2)))) = some (r1, r2, r3) := by rw [if_pos rfl] at H; exact H
    clear H
    have H := H1
    clear H1
    replace H := Option.bind_eq_some_iff.mp H
    obtain ⟨⟨t289, t290⟩, A70, H⟩ := H
    replace H : (if t290 = 0 then (if 0 ≤ (wrap64 ((wrap64 (t289 + 1)) - 1)) then (if (wrap64 ((wrap64 (t289 + 1)) - 1)) < (s0_0.length : Int) then (some (rd s0_0 (wrap64 ((wrap64 (t289 + 1)) - 1)), wrap64 (t289 + 1), t290)) else (none)) else (none)) else (some (0, t289, t290))) = some (r1, r2, r3) := H
    have A7 := Aside0.mk A70
    clear A70
    by_cases c8 : t290 = 0
    ·rw [if_pos c8] at H
     have c8b0 : (t290 == 0) = true := beq_iff_eq.mpr c8
     have c8b1 : (t290 != 0) = false := bne_eq_false_iff_eq.mpr c8
     clear c8
     obtain ⟨ji9, hji9⟩ : ∃ j_ : Int, (wrap64 ((wrap64 (t289 + 1)) - 1)) = j_ := ⟨_, rfl⟩
     replace H : (if 0 ≤ (ji9) then (if (ji9) < (s0_0.length : Int) then (some (rd s0_0 (ji9), wrap64 (t289 + 1), t290)) else (none)) else (none)) = some (r1, r2, r3) := by first | (rw [hji9] at H; exact H) | (simp only [hji9] at H ⊢; exact H)
     (try rw [hji9] at A7)
     have hji9w : (IntKind.i64.wrap ((wrap64 (t289 + 1)) - 1)) = ji9 := (i64_w _).trans hji9
     by_cases c10 : 0 ≤ (ji9)
     ·rw [if_pos c10] at H
      have c10b0 : decide (0 ≤ (ji9)) = true := decide_eq_true c10
      clear c10
      by_cases c11 : (ji9) < (s0_0.length : Int)
      ·rw [if_pos c11] at H
       have c11b0 : decide ((ji9) < (s0_0.length : Int)) = true := decide_eq_true c11
       clear c11
       simp only [Option.some.injEq, Prod.mk.injEq] at H
       obtain ⟨rfl, rfl, rfl⟩ := H
       go_wp2_with (first | (go_at_call 60; (with_reducible refine (marquetryref13_Reader_fail.calls g s0_0 s0_1 s0_2 6 t289 t290 w0 _ ?side1 ?side2 A7.out).mono ?_); (case side1 => repeat (first | (with_reducible first | exact HI0.out | apply IsS76.alloc | apply IsS76.drewN | apply IsS76.drew | apply IsS76.set_1 | apply IsS76.set_2) | exact HI0.out)); (case side2 => repeat (first | (with_reducible first | exact HB.out | apply below_alloc | apply pw_below_drewN | apply below_drew1 | refine below_set ?_ (IsS76.ge HI0.out)) | exact HB.out)); rintro e w12 ⟨rfl, hi, hb, hk⟩; have n0_ := Aside0.mk (KeepBut.trans (by repeat (first | (with_reducible first | exact HK.out | apply KeepBut.set_ | apply keep_drewN | apply keep_drew | apply keep_alloc) | exact HK.out)) hk (.inl rfl)); have n1_ := Aside0.mk (hb); have n2_ := Aside0.mk (hi); clear HK; clear HB; clear HI0; have HK := n0_; have HB := n1_; have HI0 := n2_; clear n0_ n1_ n2_; (try clear hb); (try clear hb2); (try clear hk); (try clear hi); obtain ⟨ASz13_0, cSz13_0, HGz13, hgz13, HSz13_0⟩ := HI0.out; have hcz13_0 := cellS76_0 HGz13; have hcz13_1 := cellS76_1 HGz13; have hcz13_2 := cellS76_2 HGz13; have hfz13_1 := blk_frozen HGz13 1; have hfz13_2 := blk_frozen HGz13 2; clear HGz13 hgz13; have p291 : 0 ≤ ((ji9) : Int) := of_decide_eq_true (by first | (with_reducible assumption) | assumption); have q291 : (ji9) < (s0_0.length : Int) := of_decide_eq_true (by first | (with_reducible assumption) | assumption); obtain ⟨ad291, e291, hx291_0⟩ := Kd.at_int HSz13_0 (ji9) p291 q291; cases e291; have hn291_0 : ad291.block ≠ g := Nat.ne_of_lt (Nat.lt_of_lt_of_le (by have := World.block_lt_of_cell? _ _ hx291_0; first | rwa [add_block] at this | exact this) (IsS76.ge HI0.out)); replace hx291_0 := pw_cell_below HB.out hx291_0; replace hx291_0 := (cell_far (p := ⟨g, 1, none⟩) (by first | (rw [add_block]; exact hn291_0) | (show (Addr.add _ _).block ≠ _; rw [add_block]; exact hn291_0) | exact hn291_0) (.int .i64 (wrap64 (t289 + 1)))).trans hx291_0; (try have hy291_0 := fun (n_ : Nat) => (show (((w12.drewN n_).setCell ⟨g, 1, none⟩ (.int .i64 (wrap64 (t289 + 1))))).cell? _ = some _ from hx291_0)); clear hn291_0; replace p291 := eq_true p291; replace q291 := eq_true q291))
       repeat (go_quiet (first | (go_at_call 60; (with_reducible refine (marquetryref13_Reader_fail.calls g s0_0 s0_1 s0_2 6 t289 t290 w0 _ ?side1 ?side2 A7.out).mono ?_); (case side1 => repeat (first | (with_reducible first | exact HI0.out | apply IsS76.alloc | apply IsS76.drewN | apply IsS76.drew | apply IsS76.set_1 | apply IsS76.set_2) | exact HI0.out)); (case side2 => repeat (first | (with_reducible first | exact HB.out | apply below_alloc | apply pw_below_drewN | apply below_drew1 | refine below_set ?_ (IsS76.ge HI0.out)) | exact HB.out)); rintro e w12 ⟨rfl, hi, hb, hk⟩; have n0_ := Aside0.mk (KeepBut.trans (by repeat (first | (with_reducible first | exact HK.out | apply KeepBut.set_ | apply keep_drewN | apply keep_drew | apply keep_alloc) | exact HK.out)) hk (.inl rfl)); have n1_ := Aside0.mk (hb); have n2_ := Aside0.mk (hi); clear HK; clear HB; clear HI0; have HK := n0_; have HB := n1_; have HI0 := n2_; clear n0_ n1_ n2_; (try clear hb); (try clear hb2); (try clear hk); (try clear hi); obtain ⟨ASz13_0, cSz13_0, HGz13, hgz13, HSz13_0⟩ := HI0.out; have hcz13_0 := cellS76_0 HGz13; have hcz13_1 := cellS76_1 HGz13; have hcz13_2 := cellS76_2 HGz13; have hfz13_1 := blk_frozen HGz13 1; have hfz13_2 := blk_frozen HGz13 2; clear HGz13 hgz13; have p291 : 0 ≤ ((ji9) : Int) := of_decide_eq_true (by first | (with_reducible assumption) | assumption); have q291 : (ji9) < (s0_0.length : Int) := of_decide_eq_true (by first | (with_reducible assumption) | assumption); obtain ⟨ad291, e291, hx291_0⟩ := Kd.at_int HSz13_0 (ji9) p291 q291; cases e291; have hn291_0 : ad291.block ≠ g := Nat.ne_of_lt (Nat.lt_of_lt_of_le (by have := World.block_lt_of_cell? _ _ hx291_0; first | rwa [add_block] at this | exact this) (IsS76.ge HI0.out)); replace hx291_0 := pw_cell_below HB.out hx291_0; replace hx291_0 := (cell_far (p := ⟨g, 1, none⟩) (by first | (rw [add_block]; exact hn291_0) | (show (Addr.add _ _).block ≠ _; rw [add_block]; exact hn291_0) | exact hn291_0) (.int .i64 (wrap64 (t289 + 1)))).trans hx291_0; (try have hy291_0 := fun (n_ : Nat) => (show (((w12.drewN n_).setCell ⟨g, 1, none⟩ (.int .i64 (wrap64 (t289 + 1))))).cell? _ = some _ from hx291_0)); clear hn291_0; replace p291 := eq_true p291; replace q291 := eq_true q291)); try go_wp2_with (first | (go_at_call 60; (with_reducible refine (marquetryref13_Reader_fail.calls g s0_0 s0_1 s0_2 6 t289 t290 w0 _ ?side1 ?side2 A7.out).mono ?_); (case side1 => repeat (first | (with_reducible first | exact HI0.out | apply IsS76.alloc | apply IsS76.drewN | apply IsS76.drew | apply IsS76.set_1 | apply IsS76.set_2) | exact HI0.out)); (case side2 => repeat (first | (with_reducible first | exact HB.out | apply below_alloc | apply pw_below_drewN | apply below_drew1 | refine below_set ?_ (IsS76.ge HI0.out)) | exact HB.out)); rintro e w12 ⟨rfl, hi, hb, hk⟩; have n0_ := Aside0.mk (KeepBut.trans (by repeat (first | (with_reducible first | exact HK.out | apply KeepBut.set_ | apply keep_drewN | apply keep_drew | apply keep_alloc) | exact HK.out)) hk (.inl rfl)); have n1_ := Aside0.mk (hb); have n2_ := Aside0.mk (hi); clear HK; clear HB; clear HI0; have HK := n0_; have HB := n1_; have HI0 := n2_; clear n0_ n1_ n2_; (try clear hb); (try clear hb2); (try clear hk); (try clear hi); obtain ⟨ASz13_0, cSz13_0, HGz13, hgz13, HSz13_0⟩ := HI0.out; have hcz13_0 := cellS76_0 HGz13; have hcz13_1 := cellS76_1 HGz13; have hcz13_2 := cellS76_2 HGz13; have hfz13_1 := blk_frozen HGz13 1; have hfz13_2 := blk_frozen HGz13 2; clear HGz13 hgz13; have p291 : 0 ≤ ((ji9) : Int) := of_decide_eq_true (by first | (with_reducible assumption) | assumption); have q291 : (ji9) < (s0_0.length : Int) := of_decide_eq_true (by first | (with_reducible assumption) | assumption); obtain ⟨ad291, e291, hx291_0⟩ := Kd.at_int HSz13_0 (ji9) p291 q291; cases e291; have hn291_0 : ad291.block ≠ g := Nat.ne_of_lt (Nat.lt_of_lt_of_le (by have := World.block_lt_of_cell? _ _ hx291_0; first | rwa [add_block] at this | exact this) (IsS76.ge HI0.out)); replace hx291_0 := pw_cell_below HB.out hx291_0; replace hx291_0 := (cell_far (p := ⟨g, 1, none⟩) (by first | (rw [add_block]; exact hn291_0) | (show (Addr.add _ _).block ≠ _; rw [add_block]; exact hn291_0) | exact hn291_0) (.int .i64 (wrap64 (t289 + 1)))).trans hx291_0; (try have hy291_0 := fun (n_ : Nat) => (show (((w12.drewN n_).setCell ⟨g, 1, none⟩ (.int .i64 (wrap64 (t289 + 1))))).cell? _ = some _ from hx291_0)); clear hn291_0; replace p291 := eq_true p291; replace q291 := eq_true q291)))
       go_ret
       exact ⟨by first | rfl | (simp [errW_none, errW_some] <;> rfl) | (simp only [← hji9]; first | rfl | (simp [errW_none, errW_some] <;> rfl)) | (simp [*, errW_none, errW_some] <;> rfl), by repeat (first | (with_reducible first | exact HI0.out | apply IsS76.alloc | apply IsS76.drewN | apply IsS76.drew | apply IsS76.set_1 | apply IsS76.set_2) | exact HI0.out), by repeat (first | (with_reducible first | exact HB.out | apply below_alloc | apply pw_below_drewN | apply below_drew1 | refine below_set ?_ (IsS76.ge HI0.out)) | exact HB.out), by repeat (first | (with_reducible first | exact HK.out | apply KeepBut.set_ | apply keep_drewN | apply keep_drew | apply keep_alloc) | exact HK.out)⟩
      ·rw [if_neg c11] at H
       exact absurd H (by simp)
     ·rw [if_neg c10] at H
      exact absurd H (by simp)
    ·rw [if_neg c8] at H
     have c8b0 : (t290 == 0) = false := beq_eq_false_iff_ne.mpr c8
     have c8b1 : (t290 != 0) = true := bne_iff_ne.mpr c8
     simp only [Option.some.injEq, Prod.mk.injEq] at H
     obtain ⟨rfl, rfl, rfl⟩ := H
     go_wp2_with (first | (go_at_call 60; (with_reducible refine (marquetryref13_Reader_fail.calls g s0_0 s0_1 s0_2 6 t289 t290 w0 _ ?side1 ?side2 A7.out).mono ?_); (case side1 => repeat (first | (with_reducible first | exact HI0.out | apply IsS76.alloc | apply IsS76.drewN | apply IsS76.drew | apply IsS76.set_1 | apply IsS76.set_2) | exact HI0.out)); (case side2 => repeat (first | (with_reducible first | exact HB.out | apply below_alloc | apply pw_below_drewN | apply below_drew1 | refine below_set ?_ (IsS76.ge HI0.out)) | exact HB.out)); rintro e w14 ⟨rfl, hi, hb, hk⟩; have n0_ := Aside0.mk (KeepBut.trans (by repeat (first | (with_reducible first | exact HK.out | apply KeepBut.set_ | apply keep_drewN | apply keep_drew | apply keep_alloc) | exact HK.out)) hk (.inl rfl)); have n1_ := Aside0.mk (hb); have n2_ := Aside0.mk (hi); clear HK; clear HB; clear HI0; have HK := n0_; have HB := n1_; have HI0 := n2_; clear n0_ n1_ n2_; (try clear hb); (try clear hb2); (try clear hk); (try clear hi); obtain ⟨ASz15_0, cSz15_0, HGz15, hgz15, HSz15_0⟩ := HI0.out; have hcz15_0 := cellS76_0 HGz15; have hcz15_1 := cellS76_1 HGz15; have hcz15_2 := cellS76_2 HGz15; have hfz15_1 := blk_frozen HGz15 1; have hfz15_2 := blk_frozen HGz15 2; clear HGz15 hgz15))
     repeat (go_quiet (first | (go_at_call 60; (with_reducible refine (marquetryref13_Reader_fail.calls g s0_0 s0_1 s0_2 6 t289 t290 w0 _ ?side1 ?side2 A7.out).mono ?_); (case side1 => repeat (first | (with_reducible first | exact HI0.out | apply IsS76.alloc | apply IsS76.drewN | apply IsS76.drew | apply IsS76.set_1 | apply IsS76.set_2) | exact HI0.out)); (case side2 => repeat (first | (with_reducible first | exact HB.out | apply below_alloc | apply pw_below_drewN | apply below_drew1 | refine below_set ?_ (IsS76.ge HI0.out)) | exact HB.out)); rintro e w14 ⟨rfl, hi, hb, hk⟩; have n0_ := Aside0.mk (KeepBut.trans (by repeat (first | (with_reducible first | exact HK.out | apply KeepBut.set_ | apply keep_drewN | apply keep_drew | apply keep_alloc) | exact HK.out)) hk (.inl rfl)); have n1_ := Aside0.mk (hb); have n2_ := Aside0.mk (hi); clear HK; clear HB; clear HI0; have HK := n0_; have HB := n1_; have HI0 := n2_; clear n0_ n1_ n2_; (try clear hb); (try clear hb2); (try clear hk); (try clear hi); obtain ⟨ASz15_0, cSz15_0, HGz15, hgz15, HSz15_0⟩ := HI0.out; have hcz15_0 := cellS76_0 HGz15; have hcz15_1 := cellS76_1 HGz15; have hcz15_2 := cellS76_2 HGz15; have hfz15_1 := blk_frozen HGz15 1; have hfz15_2 := blk_frozen HGz15 2; clear HGz15 hgz15)); try go_wp2_with (first | (go_at_call 60; (with_reducible refine (marquetryref13_Reader_fail.calls g s0_0 s0_1 s0_2 6 t289 t290 w0 _ ?side1 ?side2 A7.out).mono ?_); (case side1 => repeat (first | (with_reducible first | exact HI0.out | apply IsS76.alloc | apply IsS76.drewN | apply IsS76.drew | apply IsS76.set_1 | apply IsS76.set_2) | exact HI0.out)); (case side2 => repeat (first | (with_reducible first | exact HB.out | apply below_alloc | apply pw_below_drewN | apply below_drew1 | refine below_set ?_ (IsS76.ge HI0.out)) | exact HB.out)); rintro e w14 ⟨rfl, hi, hb, hk⟩; have n0_ := Aside0.mk (KeepBut.trans (by repeat (first | (with_reducible first | exact HK.out | apply KeepBut.set_ | apply keep_drewN | apply keep_drew | apply keep_alloc) | exact HK.out)) hk (.inl rfl)); have n1_ := Aside0.mk (hb); have n2_ := Aside0.mk (hi); clear HK; clear HB; clear HI0; have HK := n0_; have HB := n1_; have HI0 := n2_; clear n0_ n1_ n2_; (try clear hb); (try clear hb2); (try clear hk); (try clear hi); obtain ⟨ASz15_0, cSz15_0, HGz15, hgz15, HSz15_0⟩ := HI0.out; have hcz15_0 := cellS76_0 HGz15; have hcz15_1 := cellS76_1 HGz15; have hcz15_2 := cellS76_2 HGz15; have hfz15_1 := blk_frozen HGz15 1; have hfz15_2 := blk_frozen HGz15 2; clear HGz15 hgz15)))
     go_ret
     exact ⟨by first | rfl | (simp [errW_none, errW_some] <;> rfl) | (simp [*, errW_none, errW_some] <;> rfl), by repeat (first | (with_reducible first | exact HI0.out | apply IsS76.alloc | apply IsS76.drewN | apply IsS76.drew | apply IsS76.set_1 | apply IsS76.set_2) | exact HI0.out), by repeat (first | (with_reducible first | exact HB.out | apply below_alloc | apply pw_below_drewN | apply below_drew1 | refine below_set ?_ (IsS76.ge HI0.out)) | exact HB.out), by repeat (first | (with_reducible first | exact HK.out | apply KeepBut.set_ | apply keep_drewN | apply keep_drew | apply keep_alloc) | exact HK.out)⟩
   ·replace c6 := Bool.eq_false_iff.mpr c6
    subst c6
    have H1 : (if s0_2 = 0 then (if 0 ≤ (wrap64 ((wrap64 (s0_1 + 1)) - 1)) then (if (wrap64 ((wrap64 (s0_1 + 1)) - 1)) < (s0_0.length : Int) then (some (rd s0_0 (wrap64 ((wrap64 (s0_1 + 1)) - 1)), wrap64 (s0_1 + 1), s0_2)) else (none)) else (none)) else (some (0, s0_1, s0_2))) = some (r1, r2, r3) := by rw [if_neg (show ¬ (false = true) by decide)] at H; exact H
    clear H
    have H := H1
    clear H1
    by_cases c16 : s0_2 = 0
    ·rw [if_pos c16] at H
     have c16b0 : (s0_2 == 0) = true := beq_iff_eq.mpr c16
     have c16b1 : (s0_2 != 0) = false := bne_eq_false_iff_eq.mpr c16
     clear c16
     obtain ⟨ji17, hji17⟩ : ∃ j_ : Int, (wrap64 ((wrap64 (s0_1 + 1)) - 1)) = j_ := ⟨_, rfl⟩
     replace H : (if 0 ≤ (ji17) then (if (ji17) < (s0_0.length : Int) then (some (rd s0_0 (ji17), wrap64 (s0_1 + 1), s0_2)) else (none)) else (none)) = some (r1, r2, r3) := by first | (rw [hji17] at H; exact H) | (simp only [hji17] at H ⊢; exact H)
     have hji17w : (IntKind.i64.wrap ((wrap64 (s0_1 + 1)) - 1)) = ji17 := (i64_w _).trans hji17
     by_cases c18 : 0 ≤ (ji17)
     ·rw [if_pos c18] at H
      have c18b0 : decide (0 ≤ (ji17)) = true := decide_eq_true c18
      clear c18
      by_cases c19 : (ji17) < (s0_0.length : Int)
      ·rw [if_pos c19] at H
       have c19b0 : decide ((ji17) < (s0_0.length : Int)) = true := decide_eq_true c19
       clear c19
       simp only [Option.some.injEq, Prod.mk.injEq] at H
       obtain ⟨rfl, rfl, rfl⟩ := H
       obtain ⟨ASz20_0, cSz20_0, HGz20, hgz20, HSz20_0⟩ := HI0.out
       have hcz20_0 := cellS76_0 HGz20
       have hcz20_1 := cellS76_1 HGz20
       have hcz20_2 := cellS76_2 HGz20
       have hfz20_1 := blk_frozen HGz20 1
       have hfz20_2 := blk_frozen HGz20 2
       clear HGz20 hgz20
       have p292 : 0 ≤ ((ji17) : Int) := of_decide_eq_true (by first | (with_reducible assumption) | assumption)
       have q292 : (ji17) < (s0_0.length : Int) := of_decide_eq_true (by first | (with_reducible assumption) | assumption)
       obtain ⟨ad292, e292, hx292_0⟩ := Kd.at_int HSz20_0 (ji17) p292 q292
       cases e292
       have hn292_0 : ad292.block ≠ g := Nat.ne_of_lt (Nat.lt_of_lt_of_le (by have := World.block_lt_of_cell? _ _ hx292_0; first | rwa [add_block] at this | exact this) (IsS76.ge HI0.out))
       replace hx292_0 := pw_cell_below HB.out hx292_0
       replace hx292_0 := (cell_far (p := ⟨g, 1, none⟩) (by first | (rw [add_block]; exact hn292_0) | (show (Addr.add _ _).block ≠ _; rw [add_block]; exact hn292_0) | exact hn292_0) (.int .i64 (wrap64 (s0_1 + 1)))).trans hx292_0
       (try have hy292_0 := fun (n_ : Nat) => (show (((wc.drewN n_).setCell ⟨g, 1, none⟩ (.int .i64 (wrap64 (s0_1 + 1))))).cell? _ = some _ from hx292_0))
       clear hn292_0
       replace p292 := eq_true p292
       replace q292 := eq_true q292
       go_wp2
       repeat (go_quiet (fail); try go_wp2)
       go_ret
       exact ⟨by first | rfl | (simp [errW_none, errW_some] <;> rfl) | (simp only [← hji17]; first | rfl | (simp [errW_none, errW_some] <;> rfl)) | (simp [*, errW_none, errW_some] <;> rfl), by repeat (first | (with_reducible first | exact HI0.out | apply IsS76.alloc | apply IsS76.drewN | apply IsS76.drew | apply IsS76.set_1 | apply IsS76.set_2) | exact HI0.out), by repeat (first | (with_reducible first | exact HB.out | apply below_alloc | apply pw_below_drewN | apply below_drew1 | refine below_set ?_ (IsS76.ge HI0.out)) | exact HB.out), by repeat (first | (with_reducible first | exact HK.out | apply KeepBut.set_ | apply keep_drewN | apply keep_drew | apply keep_alloc) | exact HK.out)⟩
      ·rw [if_neg c19] at H
       exact absurd H (by simp)
     ·rw [if_neg c18] at H
      exact absurd H (by simp)
    ·rw [if_neg c16] at H
     have c16b0 : (s0_2 == 0) = false := beq_eq_false_iff_ne.mpr c16
     have c16b1 : (s0_2 != 0) = true := bne_iff_ne.mpr c16
     simp only [Option.some.injEq, Prod.mk.injEq] at H
     obtain ⟨rfl, rfl, rfl⟩ := H
     obtain ⟨ASz21_0, cSz21_0, HGz21, hgz21, HSz21_0⟩ := HI0.out
     have hcz21_0 := cellS76_0 HGz21
     have hcz21_1 := cellS76_1 HGz21
     have hcz21_2 := cellS76_2 HGz21
     have hfz21_1 := blk_frozen HGz21 1
     have hfz21_2 := blk_frozen HGz21 2
     clear HGz21 hgz21
     go_wp2
     repeat (go_quiet (fail); try go_wp2)
     go_ret
     exact ⟨by first | rfl | (simp [errW_none, errW_some] <;> rfl) | (simp [*, errW_none, errW_some] <;> rfl), by repeat (first | (with_reducible first | exact HI0.out | apply IsS76.alloc | apply IsS76.drewN | apply IsS76.drew | apply IsS76.set_1 | apply IsS76.set_2) | exact HI0.out), by repeat (first | (with_reducible first | exact HB.out | apply below_alloc | apply pw_below_drewN | apply below_drew1 | refine below_set ?_ (IsS76.ge HI0.out)) | exact HB.out), by repeat (first | (with_reducible first | exact HK.out | apply KeepBut.set_ | apply keep_drewN | apply keep_drew | apply keep_alloc) | exact HK.out)⟩
end Go.Proofs.Ytbncfhmfohpfbaa.X
end

section
namespace Go.Proofs.Ytbncfhmfohpfbaa.X
open Go.RowKit Go.Proofs.YtbncfhmfohpfbaaW.PrintWords Go.Proofs.YtbncfhmfohpfbaaW.PrintLast Go.Proofs.YtbncfhmfohpfbaaW.PrintMore
attribute [local go_sem] max2_int min2_int max_two min_two max_three min_three max_four min_four
set_option linter.unusedVariables false
set_option linter.unusedSimpArgs false
mutual
def marquetryref13_Reader_number.l0 : Nat → Int → Int → List Int → Int → Int → Option (Int × Int × Int)
 | 0, _, _, _, _, _ => none
 | k + 1, x3, x4, x1000, x1001, x1002 => if x4 < 70 then ((marquetryref13_Reader_next.f k x1000 x1001 x1002).bind fun bt293 => (if bt293.2.2 = 0 then (if x4 = 63 then (if bt293.1 > 1 then (marquetryref13_Reader_number.j1 k x3 x4 bt293.1 true x1000 bt293.2.1 bt293.2.2) else (if x4 > 0 then (marquetryref13_Reader_number.j1 k x3 x4 bt293.1 (bt293.1 == 0) x1000 bt293.2.1 bt293.2.2) else (marquetryref13_Reader_number.j1 k x3 x4 bt293.1 false x1000 bt293.2.1 bt293.2.2))) else (if x4 > 0 then (marquetryref13_Reader_number.j1 k x3 x4 bt293.1 (bt293.1 == 0) x1000 bt293.2.1 bt293.2.2) else (marquetryref13_Reader_number.j1 k x3 x4 bt293.1 false x1000 bt293.2.1 bt293.2.2))) else (some (0, bt293.2.1, bt293.2.2)))) else (some (0, x1001, x1002))
def marquetryref13_Reader_number.j1 : Nat → Int → Int → Int → Bool → List Int → Int → Int → Option (Int × Int × Int)
 | 0, _, _, _, _, _, _, _ => none
 | k + 1, x3, x4, x5, x30, x1000, x1001, x1002 => if x30 = true then ((marquetryref13_Reader_fail.f x1000 x1001 x1002 8).bind fun bt296 => (some (0, bt296.1, bt296.2))) else (if 0 ≤ x4 then (if x5 < 128 then (some (IntKind.u64.wrap (x3 + (shl .u64 (IntKind.u64.wrap (Int.tmod x5 128)) x4)), x1001, x1002)) else (marquetryref13_Reader_number.l0 k (IntKind.u64.wrap (x3 + (shl .u64 (IntKind.u64.wrap (Int.tmod x5 128)) x4))) (wrap64 (x4 + 7)) x1000 x1001 x1002)) else (none))
end
def marquetryref13_Reader_number.f (k : Nat) (s0_0 : List Int) (s0_1 : Int) (s0_2 : Int) : Option (Int × Int × Int) := marquetryref13_Reader_number.l0 k 0 0 s0_0 s0_1 s0_2
theorem marquetryref13_Reader_number.mono_l : ∀ k, (∀ y0 y1 y2 y3 y4, LeO (marquetryref13_Reader_number.l0 k y0 y1 y2 y3 y4) (marquetryref13_Reader_number.l0 (k + 1) y0 y1 y2 y3 y4)) ∧ (∀ y0 y1 y2 y3 y4 y5 y6, LeO (marquetryref13_Reader_number.j1 k y0 y1 y2 y3 y4 y5 y6) (marquetryref13_Reader_number.j1 (k + 1) y0 y1 y2 y3 y4 y5 y6))
 | 0 => ⟨fun _ _ _ _ _ r h => by simp [marquetryref13_Reader_number.l0] at h, fun _ _ _ _ _ _ _ r h => by simp [marquetryref13_Reader_number.j1] at h⟩
 | k + 1 => by
  obtain ⟨ih0, ih1⟩ := marquetryref13_Reader_number.mono_l k
  refine ⟨?_, ?_⟩
  ·intro y0 y1 y2 y3 y4
   unfold marquetryref13_Reader_number.l0
   repeat' first
   | (with_reducible exact ih0 _ _ _ _ _)
   | (with_reducible exact ih1 _ _ _ _ _ _ _)
   | (with_reducible exact marquetryref13_Reader_next.mono _ _ _ _)
   | (with_reducible exact LeO.refl _)
   | (with_reducible exact LeO.none _)
   | (with_reducible refine LeO.ite ?_ ?_)
   | (with_reducible refine LeO.bind ?_ (fun _ => ?_))
   | exact ih0 _ _ _ _ _
   | exact ih1 _ _ _ _ _ _ _
   | exact marquetryref13_Reader_next.mono _ _ _ _
   | exact LeO.none _
   | refine LeO.ite ?_ ?_
   | refine LeO.bind ?_ (fun _ => ?_)
  ·intro y0 y1 y2 y3 y4 y5 y6
   unfold marquetryref13_Reader_number.j1
   repeat' first
   | (with_reducible exact ih0 _ _ _ _ _)
   | (with_reducible exact ih1 _ _ _ _ _ _ _)
   | (with_reducible exact marquetryref13_Reader_next.mono _ _ _ _)
   | (with_reducible exact LeO.refl _)
   | (with_reducible exact LeO.none _)
   | (with_reducible refine LeO.ite ?_ ?_)
   | (with_reducible refine LeO.bind ?_ (fun _ => ?_))
   | exact ih0 _ _ _ _ _
   | exact ih1 _ _ _ _ _ _ _
   | exact marquetryref13_Reader_next.mono _ _ _ _
   | exact LeO.none _
   | refine LeO.ite ?_ ?_
   | refine LeO.bind ?_ (fun _ => ?_)
theorem marquetryref13_Reader_number.mono : ∀ a0 a1 a2 k, LeO (marquetryref13_Reader_number.f k a0 a1 a2) (marquetryref13_Reader_number.f (k + 1) a0 a1 a2) := by
 intro a0 a1 a2 k
 obtain ⟨ih0, ih1⟩ := marquetryref13_Reader_number.mono_l k
 unfold marquetryref13_Reader_number.f
 repeat' first
   | (with_reducible exact ih0 _ _ _ _ _)
   | (with_reducible exact ih1 _ _ _ _ _ _ _)
   | (with_reducible exact marquetryref13_Reader_next.mono _ _ _ _)
   | (with_reducible exact LeO.refl _)
   | (with_reducible exact LeO.none _)
   | (with_reducible refine LeO.ite ?_ ?_)
   | (with_reducible refine LeO.bind ?_ (fun _ => ?_))
   | exact ih0 _ _ _ _ _
   | exact ih1 _ _ _ _ _ _ _
   | exact marquetryref13_Reader_next.mono _ _ _ _
   | exact LeO.none _
   | refine LeO.ite ?_ ?_
   | refine LeO.bind ?_ (fun _ => ?_)
set_option maxHeartbeats 8000000 in
set_option maxRecDepth 100000 in
theorem marquetryref13_Reader_number.calls (k : Nat) (g : Nat) (s0_0 : List Int) (s0_1 : Int) (s0_2 : Int) (r1 : Int) (r2 : Int) (r3 : Int) (w0 w : World) (hI : IsS76 w0 w g s0_0 s0_1 s0_2) (hB : Below w0.heap.size w0 w) (h : marquetryref13_Reader_number.f k s0_0 s0_1 s0_2 = some (r1, r2, r3)) :
  Calls Try.prog 41 #[.pointer (some ⟨g, 0, none⟩)] w fun e w' => e = .returned (.int .u64 r1) ∧ IsS76 w0 w' g s0_0 r2 r3 ∧ Below w0.heap.size w0 w' ∧ KeepBut w w' g none := by
 have HI0 := Aside0.mk hI
 have HK := Aside0.mk (KeepBut.refl w g none)
 have HL := Aside0.mk hB.size
 clear hI
 have HW0 := Aside0.mk hB.size
 have HB := Aside0.mk hB
 clear hB
 have H : (marquetryref13_Reader_number.l0 k 0 0 s0_0 s0_1 s0_2) = some (r1, r2, r3) := h
 clear h
 have H' := Aside0.mk H
 clear H
 go_enter Try.func41, Try.ntmps41
 go_wp2
 go_loopg [3, 4] k (fun kq v3 v4 w' => ∃ (x3_1 : Int) (x4_1 : Int) (x1001_1 : Int) (x1002_1 : Int), v3 = .int .u64 x3_1 ∧ v4 = .int .i64 x4_1 ∧ Aside0 (marquetryref13_Reader_number.l0 kq x3_1 x4_1 s0_0 x1001_1 x1002_1 = some (r1, r2, r3)) ∧ Aside0 (kq ≤ k) ∧ Aside0 (IsS76 w0 w' g s0_0 x1001_1 x1002_1) ∧ Aside0 (KeepBut w w' g none) ∧ Aside0 (Below w0.heap.size w0 w'))
 case atStart => exact ⟨(0), (0), (s0_1), (s0_2), (by first | rfl | (simp; done) | (simp [*]; done)), (by first | rfl | (simp; done) | (simp [*]; done)), H', ⟨Nat.le_refl _⟩, ⟨by repeat (first | (with_reducible first | exact HI0.out | apply IsS76.alloc | apply IsS76.drewN | apply IsS76.drew | apply IsS76.set_1 | apply IsS76.set_2) | exact HI0.out)⟩, ⟨by repeat (first | (with_reducible first | exact HK.out | apply KeepBut.set_ | apply keep_drewN | apply keep_drew | apply keep_alloc) | exact HK.out)⟩, ⟨by repeat (first | (with_reducible first | exact HB.out | apply below_alloc | apply pw_below_drewN | apply below_drew1 | refine below_set ?_ (IsS76.ge HI0.out)) | exact HB.out)⟩⟩
 case round =>
  clear H'
  obtain ⟨x3_1, x4_1, x1001_1, x1002_1, rfl, rfl, HA, HK1, HI0, HK, HB⟩ := hrel
  cases gk with
  | zero => exact absurd HA.out (by simp [marquetryref13_Reader_number.l0])
  | succ k1 =>
   have H := HA.out
   clear HA
   simp only [marquetryref13_Reader_number.l0] at H
   by_cases c2 : x4_1 < 70
   ·rw [if_pos c2] at H
    have c2b0 : decide (x4_1 < 70) = true := decide_eq_true c2
    clear c2
    replace H := Option.bind_eq_some_iff.mp H
    obtain ⟨⟨t293, t294, t295⟩, A30, H⟩ := H
    replace H : (if t295 = 0 then (if x4_1 = 63 then (if t293 > 1 then (marquetryref13_Reader_number.j1 k1 x3_1 x4_1 t293 true s0_0 t294 t295) else (if x4_1 > 0 then (marquetryref13_Reader_number.j1 k1 x3_1 x4_1 t293 (t293 == 0) s0_0 t294 t295) else (marquetryref13_Reader_number.j1 k1 x3_1 x4_1 t293 false s0_0 t294 t295))) else (if x4_1 > 0 then (marquetryref13_Reader_number.j1 k1 x3_1 x4_1 t293 (t293 == 0) s0_0 t294 t295) else (marquetryref13_Reader_number.j1 k1 x3_1 x4_1 t293 false s0_0 t294 t295))) else (some (0, t294, t295))) = some (r1, r2, r3) := H
    have A3 := Aside0.mk A30
    clear A30
    by_cases c4 : t295 = 0
    ·rw [if_pos c4] at H
     have c4b0 : (t295 == 0) = true := beq_iff_eq.mpr c4
     have c4b1 : (t295 != 0) = false := bne_eq_false_iff_eq.mpr c4
     clear c4
     have HC5 := Aside0.mk H
     clear H
     go_upto_region 8 with (first | ((with_reducible refine gate_callee (f := 44) rfl ?_); refine goesL_ (some 11) rfl rfl Try.func44 (by kernel_rfl) rfl #[.pointer (some ⟨g, 0, none⟩)] rfl (by (try simp only [List.map_toArray, List.map_cons, List.map_nil]); first | done | rfl | (simp only [List.length_drop, List.length_take]; rfl)) ?_; (with_reducible refine (marquetryref13_Reader_next.calls k1 g s0_0 x1001_1 x1002_1 t293 t294 t295 w0 _ ?side1 ?side2 A3.out).mono ?_); (case side1 => repeat (first | (with_reducible first | exact HI0.out | apply IsS76.alloc | apply IsS76.drewN | apply IsS76.drew | apply IsS76.set_1 | apply IsS76.set_2) | exact HI0.out)); (case side2 => repeat (first | (with_reducible first | exact HB.out | apply below_alloc | apply pw_below_drewN | apply below_drew1 | refine below_set ?_ (IsS76.ge HI0.out)) | exact HB.out)); rintro e w6 ⟨rfl, hi, hb, hk⟩; refine ⟨_, rfl, ?_⟩; have n0_ := Aside0.mk (KeepBut.trans (by repeat (first | (with_reducible first | exact HK.out | apply KeepBut.set_ | apply keep_drewN | apply keep_drew | apply keep_alloc) | exact HK.out)) hk (.inl rfl)); have n1_ := Aside0.mk (hb); have n2_ := Aside0.mk (hi); clear HK; clear HB; clear HI0; have HK := n0_; have HB := n1_; have HI0 := n2_; clear n0_ n1_ n2_; (try clear hb); (try clear hb2); (try clear hk); (try clear hi); obtain ⟨ASz7_0, cSz7_0, HGz7, hgz7, HSz7_0⟩ := HI0.out; have hcz7_0 := cellS76_0 HGz7; have hcz7_1 := cellS76_1 HGz7; have hcz7_2 := cellS76_2 HGz7; have hfz7_1 := blk_frozen HGz7 1; have hfz7_2 := blk_frozen HGz7 2; clear HGz7 hgz7))
     (try simp only [Act.put, List.setIfInBounds_toArray, List.set_cons_zero, List.set_cons_succ])
     go_cut [30] (fun v30 wc => ∃ (kq : Nat) (x30_4 : Bool), v30 = .bool x30_4 ∧ Aside0 (marquetryref13_Reader_number.j1 kq x3_1 x4_1 t293 x30_4 s0_0 t294 t295 = some (r1, r2, r3)) ∧ Aside0 (kq ≤ k1) ∧ Aside0 (IsS76 w0 wc g s0_0 t294 t295) ∧ Aside0 (KeepBut w wc g none) ∧ Aside0 (Below w0.heap.size w0 wc))
     case first =>
      have H := HC5.out
      clear HC5
      by_cases c8 : x4_1 = 63
      ·rw [if_pos c8] at H
       have c8b0 : (x4_1 == 63) = true := beq_iff_eq.mpr c8
       have c8b1 : (x4_1 != 63) = false := bne_eq_false_iff_eq.mpr c8
       clear c8
       (first | rw [c8b0] | (simp only [i64_w, i32_w]; rw [c8b0]) | skip)
       by_cases c9 : t293 > 1
       ·rw [if_pos c9] at H
        have c9b0 : decide (1 < t293) = true := decide_eq_true c9
        clear c9
        have H' := Aside0.mk H
        clear H
        go_wp2
        go_meet
        case rel => exact ⟨_, (true), (by first | rfl | (simp; done) | (simp [*]; done)), H', ⟨by have := HK1.out; first | omega | exact Nat.le_refl _⟩, ⟨by repeat (first | (with_reducible first | exact HI0.out | apply IsS76.alloc | apply IsS76.drewN | apply IsS76.drew | apply IsS76.set_1 | apply IsS76.set_2) | exact HI0.out)⟩, ⟨by repeat (first | (with_reducible first | exact HK.out | apply KeepBut.set_ | apply keep_drewN | apply keep_drew | apply keep_alloc) | exact HK.out)⟩, ⟨by repeat (first | (with_reducible first | exact HB.out | apply below_alloc | apply pw_below_drewN | apply below_drew1 | refine below_set ?_ (IsS76.ge HI0.out)) | exact HB.out)⟩⟩
       ·rw [if_neg c9] at H
        have c9b0 : decide (1 < t293) = false := decide_eq_false c9
        clear c9
        by_cases c10 : x4_1 > 0
        ·rw [if_pos c10] at H
         have c10b0 : decide (0 < x4_1) = true := decide_eq_true c10
         clear c10
         have H' := Aside0.mk H
         clear H
         go_wp2
         go_meet
         case rel => exact ⟨_, ((t293 == 0)), (by first | rfl | (simp; done) | (simp [*]; done)), H', ⟨by have := HK1.out; first | omega | exact Nat.le_refl _⟩, ⟨by repeat (first | (with_reducible first | exact HI0.out | apply IsS76.alloc | apply IsS76.drewN | apply IsS76.drew | apply IsS76.set_1 | apply IsS76.set_2) | exact HI0.out)⟩, ⟨by repeat (first | (with_reducible first | exact HK.out | apply KeepBut.set_ | apply keep_drewN | apply keep_drew | apply keep_alloc) | exact HK.out)⟩, ⟨by repeat (first | (with_reducible first | exact HB.out | apply below_alloc | apply pw_below_drewN | apply below_drew1 | refine below_set ?_ (IsS76.ge HI0.out)) | exact HB.out)⟩⟩
        ·rw [if_neg c10] at H
         have c10b0 : decide (0 < x4_1) = false := decide_eq_false c10
         clear c10
         have H' := Aside0.mk H
         clear H
         go_wp2
         go_meet
         case rel => exact ⟨_, (false), (by first | rfl | (simp; done) | (simp [*]; done)), H', ⟨by have := HK1.out; first | omega | exact Nat.le_refl _⟩, ⟨by repeat (first | (with_reducible first | exact HI0.out | apply IsS76.alloc | apply IsS76.drewN | apply IsS76.drew | apply IsS76.set_1 | apply IsS76.set_2) | exact HI0.out)⟩, ⟨by repeat (first | (with_reducible first | exact HK.out | apply KeepBut.set_ | apply keep_drewN | apply keep_drew | apply keep_alloc) | exact HK.out)⟩, ⟨by repeat (first | (with_reducible first | exact HB.out | apply below_alloc | apply pw_below_drewN | apply below_drew1 | refine below_set ?_ (IsS76.ge HI0.out)) | exact HB.out)⟩⟩
      ·rw [if_neg c8] at H
       have c8b0 : (x4_1 == 63) = false := beq_eq_false_iff_ne.mpr c8
       have c8b1 : (x4_1 != 63) = true := bne_iff_ne.mpr c8
       (first | rw [c8b0] | (simp only [i64_w, i32_w]; rw [c8b0]) | skip)
       by_cases c11 : x4_1 > 0
       ·rw [if_pos c11] at H
        have c11b0 : decide (0 < x4_1) = true := decide_eq_true c11
        clear c11
        have H' := Aside0.mk H
        clear H
        go_wp2
        go_meet
        case rel => exact ⟨_, ((t293 == 0)), (by first | rfl | (simp; done) | (simp [*]; done)), H', ⟨by have := HK1.out; first | omega | exact Nat.le_refl _⟩, ⟨by repeat (first | (with_reducible first | exact HI0.out | apply IsS76.alloc | apply IsS76.drewN | apply IsS76.drew | apply IsS76.set_1 | apply IsS76.set_2) | exact HI0.out)⟩, ⟨by repeat (first | (with_reducible first | exact HK.out | apply KeepBut.set_ | apply keep_drewN | apply keep_drew | apply keep_alloc) | exact HK.out)⟩, ⟨by repeat (first | (with_reducible first | exact HB.out | apply below_alloc | apply pw_below_drewN | apply below_drew1 | refine below_set ?_ (IsS76.ge HI0.out)) | exact HB.out)⟩⟩
       ·rw [if_neg c11] at H
        have c11b0 : decide (0 < x4_1) = false := decide_eq_false c11
        clear c11
        have H' := Aside0.mk H
        clear H
        go_wp2
        go_meet
        case rel => exact ⟨_, (false), (by first | rfl | (simp; done) | (simp [*]; done)), H', ⟨by have := HK1.out; first | omega | exact Nat.le_refl _⟩, ⟨by repeat (first | (with_reducible first | exact HI0.out | apply IsS76.alloc | apply IsS76.drewN | apply IsS76.drew | apply IsS76.set_1 | apply IsS76.set_2) | exact HI0.out)⟩, ⟨by repeat (first | (with_reducible first | exact HK.out | apply KeepBut.set_ | apply keep_drewN | apply keep_drew | apply keep_alloc) | exact HK.out)⟩, ⟨by repeat (first | (with_reducible first | exact HB.out | apply below_alloc | apply pw_below_drewN | apply below_drew1 | refine below_set ?_ (IsS76.ge HI0.out)) | exact HB.out)⟩⟩
     case rest =>
      clear HC5
      try clear c1
      try clear c2
      try clear c2b0
      try clear p2
      try clear c4
      try clear c4b0
      try clear c4b1
      try clear c8
      try clear c8b0
      try clear c8b1
      try clear c9
      try clear c9b0
      try clear c10
      try clear c10b0
      try clear c11
      try clear c11b0
      try clear hcz7_0
      try clear hcz7_1
      try clear hcz7_2
      try clear hfz7_1
      try clear hfz7_2
      obtain ⟨kq, x30_4, rfl, HA, HJ4, HI0, HK, HB⟩ := hcut
      cases kq with
      | zero => exact absurd HA.out (by simp [marquetryref13_Reader_number.j1])
      | succ kj4 =>
       have H := HA.out
       clear HA
       simp only [marquetryref13_Reader_number.j1] at H
       by_cases c12 : x30_4 = true
       ·subst c12
        have H1 : ((marquetryref13_Reader_fail.f s0_0 t294 t295 8).bind fun bt296 => (some (0, bt296.1, bt296.2))) = some (r1, r2, r3) := by rw [if_pos rfl] at H; exact H
        clear H
        have H := H1
        clear H1
        replace H := Option.bind_eq_some_iff.mp H
        obtain ⟨⟨t296, t297⟩, A130, H⟩ := H
        replace H : (some (0, t296, t297)) = some (r1, r2, r3) := H
        have A13 := Aside0.mk A130
        clear A130
        simp only [Option.some.injEq, Prod.mk.injEq] at H
        obtain ⟨rfl, rfl, rfl⟩ := H
        go_wp2_with (first | ((with_reducible refine gate_callee (f := 60) rfl ?_); refine goesL_ (some 32) rfl rfl Try.func60 (by kernel_rfl) rfl #[.pointer (some ⟨g, 0, none⟩), .int .i64 8] rfl (by (try simp only [List.map_toArray, List.map_cons, List.map_nil]); first | done | rfl | (simp only [List.length_drop, List.length_take]; rfl)) ?_; (with_reducible refine (marquetryref13_Reader_fail.calls g s0_0 t294 t295 8 t296 t297 w0 _ ?side1 ?side2 A13.out).mono ?_); (case side1 => repeat (first | (with_reducible first | exact HI0.out | apply IsS76.alloc | apply IsS76.drewN | apply IsS76.drew | apply IsS76.set_1 | apply IsS76.set_2) | exact HI0.out)); (case side2 => repeat (first | (with_reducible first | exact HB.out | apply below_alloc | apply pw_below_drewN | apply below_drew1 | refine below_set ?_ (IsS76.ge HI0.out)) | exact HB.out)); rintro e w14 ⟨rfl, hi, hb, hk⟩; refine ⟨_, rfl, ?_⟩; have n0_ := Aside0.mk (KeepBut.trans (by repeat (first | (with_reducible first | exact HK.out | apply KeepBut.set_ | apply keep_drewN | apply keep_drew | apply keep_alloc) | exact HK.out)) hk (.inl rfl)); have n1_ := Aside0.mk (hb); have n2_ := Aside0.mk (hi); clear HK; clear HB; clear HI0; have HK := n0_; have HB := n1_; have HI0 := n2_; clear n0_ n1_ n2_; (try clear hb); (try clear hb2); (try clear hk); (try clear hi)))
        go_ret
        exact ⟨by first | rfl | (simp [errW_none, errW_some] <;> rfl) | (simp [*, errW_none, errW_some] <;> rfl), by repeat (first | (with_reducible first | exact HI0.out | apply IsS76.alloc | apply IsS76.drewN | apply IsS76.drew | apply IsS76.set_1 | apply IsS76.set_2) | exact HI0.out), by repeat (first | (with_reducible first | exact HB.out | apply below_alloc | apply pw_below_drewN | apply below_drew1 | refine below_set ?_ (IsS76.ge HI0.out)) | exact HB.out), by repeat (first | (with_reducible first | exact HK.out | apply KeepBut.set_ | apply keep_drewN | apply keep_drew | apply keep_alloc) | exact HK.out)⟩
       ·replace c12 := Bool.eq_false_iff.mpr c12
        subst c12
        have H1 : (if 0 ≤ x4_1 then (if t293 < 128 then (some (IntKind.u64.wrap (x3_1 + (shl .u64 (IntKind.u64.wrap (Int.tmod t293 128)) x4_1)), t294, t295)) else (marquetryref13_Reader_number.l0 kj4 (IntKind.u64.wrap (x3_1 + (shl .u64 (IntKind.u64.wrap (Int.tmod t293 128)) x4_1))) (wrap64 (x4_1 + 7)) s0_0 t294 t295)) else (none)) = some (r1, r2, r3) := by rw [if_neg (show ¬ (false = true) by decide)] at H; exact H
        clear H
        have H := H1
        clear H1
        by_cases c15 : 0 ≤ x4_1
        ·rw [if_pos c15] at H
         have c15b0 := eq_true c15
         have c15b1 : decide (0 ≤ x4_1) = true := decide_eq_true c15
         clear c15
         obtain ⟨ji16, hji16⟩ : ∃ j_ : Int, (shl .u64 (IntKind.u64.wrap (Int.tmod t293 128)) x4_1) = j_ := ⟨_, rfl⟩
         replace H : (if t293 < 128 then (some (IntKind.u64.wrap (x3_1 + (ji16)), t294, t295)) else (marquetryref13_Reader_number.l0 kj4 (IntKind.u64.wrap (x3_1 + (ji16))) (wrap64 (x4_1 + 7)) s0_0 t294 t295)) = some (r1, r2, r3) := by first | (rw [hji16] at H; exact H) | (simp only [hji16] at H ⊢; exact H)
         have hji16_ : (IntKind.u64.wrap ((IntKind.u64.wrap (Int.tmod t293 128)) * 2 ^ min x4_1.toNat 64)) = ji16 := hji16
         have hji16z : x4_1 ≤ 64 → (IntKind.u64.wrap ((IntKind.u64.wrap (Int.tmod t293 128)) * 2 ^ x4_1.toNat)) = ji16 := shl_small hji16
         by_cases c17 : t293 < 128
         ·rw [if_pos c17] at H
          have c17b0 : decide (t293 < 128) = true := decide_eq_true c17
          clear c17
          simp only [Option.some.injEq, Prod.mk.injEq] at H
          obtain ⟨rfl, rfl, rfl⟩ := H
          go_wp2
          go_ret
          exact ⟨by first | rfl | (simp [errW_none, errW_some] <;> rfl) | (simp only [← hji16]; first | rfl | (simp [errW_none, errW_some] <;> rfl)) | (simp [*, errW_none, errW_some] <;> rfl), by repeat (first | (with_reducible first | exact HI0.out | apply IsS76.alloc | apply IsS76.drewN | apply IsS76.drew | apply IsS76.set_1 | apply IsS76.set_2) | exact HI0.out), by repeat (first | (with_reducible first | exact HB.out | apply below_alloc | apply pw_below_drewN | apply below_drew1 | refine below_set ?_ (IsS76.ge HI0.out)) | exact HB.out), by repeat (first | (with_reducible first | exact HK.out | apply KeepBut.set_ | apply keep_drewN | apply keep_drew | apply keep_alloc) | exact HK.out)⟩
         ·rw [if_neg c17] at H
          have c17b0 : decide (t293 < 128) = false := decide_eq_false c17
          clear c17
          have H' := Aside0.mk H
          clear H
          go_wp2
          go_roundg kj4
          case measure => have := HK1.out; have := HJ4.out; omega
          case rel => exact ⟨(IntKind.u64.wrap (x3_1 + (ji16))), (wrap64 (x4_1 + 7)), (t294), (t295), (by first | rfl | (simp; done) | (simp only [← hji16] <;> (first | rfl | simp)) | (simp [*]; done)), (by first | rfl | (simp; done) | (simp [*]; done)), H', ⟨by have := HK1.out; have := HJ4.out; omega⟩, ⟨by repeat (first | (with_reducible first | exact HI0.out | apply IsS76.alloc | apply IsS76.drewN | apply IsS76.drew | apply IsS76.set_1 | apply IsS76.set_2) | exact HI0.out)⟩, ⟨by repeat (first | (with_reducible first | exact HK.out | apply KeepBut.set_ | apply keep_drewN | apply keep_drew | apply keep_alloc) | exact HK.out)⟩, ⟨by repeat (first | (with_reducible first | exact HB.out | apply below_alloc | apply pw_below_drewN | apply below_drew1 | refine below_set ?_ (IsS76.ge HI0.out)) | exact HB.out)⟩⟩
        ·rw [if_neg c15] at H
         exact absurd H (by simp)
    ·rw [if_neg c4] at H
     have c4b0 : (t295 == 0) = false := beq_eq_false_iff_ne.mpr c4
     have c4b1 : (t295 != 0) = true := bne_iff_ne.mpr c4
     simp only [Option.some.injEq, Prod.mk.injEq] at H
     obtain ⟨rfl, rfl, rfl⟩ := H
     go_wp2_with (first | ((with_reducible refine gate_callee (f := 44) rfl ?_); refine goesL_ (some 11) rfl rfl Try.func44 (by kernel_rfl) rfl #[.pointer (some ⟨g, 0, none⟩)] rfl (by (try simp only [List.map_toArray, List.map_cons, List.map_nil]); first | done | rfl | (simp only [List.length_drop, List.length_take]; rfl)) ?_; (with_reducible refine (marquetryref13_Reader_next.calls k1 g s0_0 x1001_1 x1002_1 t293 t294 t295 w0 _ ?side1 ?side2 A3.out).mono ?_); (case side1 => repeat (first | (with_reducible first | exact HI0.out | apply IsS76.alloc | apply IsS76.drewN | apply IsS76.drew | apply IsS76.set_1 | apply IsS76.set_2) | exact HI0.out)); (case side2 => repeat (first | (with_reducible first | exact HB.out | apply below_alloc | apply pw_below_drewN | apply below_drew1 | refine below_set ?_ (IsS76.ge HI0.out)) | exact HB.out)); rintro e w18 ⟨rfl, hi, hb, hk⟩; refine ⟨_, rfl, ?_⟩; have n0_ := Aside0.mk (KeepBut.trans (by repeat (first | (with_reducible first | exact HK.out | apply KeepBut.set_ | apply keep_drewN | apply keep_drew | apply keep_alloc) | exact HK.out)) hk (.inl rfl)); have n1_ := Aside0.mk (hb); have n2_ := Aside0.mk (hi); clear HK; clear HB; clear HI0; have HK := n0_; have HB := n1_; have HI0 := n2_; clear n0_ n1_ n2_; (try clear hb); (try clear hb2); (try clear hk); (try clear hi); obtain ⟨ASz19_0, cSz19_0, HGz19, hgz19, HSz19_0⟩ := HI0.out; have hcz19_0 := cellS76_0 HGz19; have hcz19_1 := cellS76_1 HGz19; have hcz19_2 := cellS76_2 HGz19; have hfz19_1 := blk_frozen HGz19 1; have hfz19_2 := blk_frozen HGz19 2; clear HGz19 hgz19))
     go_ret
     exact ⟨by first | rfl | (simp [errW_none, errW_some] <;> rfl) | (simp [*, errW_none, errW_some] <;> rfl), by repeat (first | (with_reducible first | exact HI0.out | apply IsS76.alloc | apply IsS76.drewN | apply IsS76.drew | apply IsS76.set_1 | apply IsS76.set_2) | exact HI0.out), by repeat (first | (with_reducible first | exact HB.out | apply below_alloc | apply pw_below_drewN | apply below_drew1 | refine below_set ?_ (IsS76.ge HI0.out)) | exact HB.out), by repeat (first | (with_reducible first | exact HK.out | apply KeepBut.set_ | apply keep_drewN | apply keep_drew | apply keep_alloc) | exact HK.out)⟩
   ·rw [if_neg c2] at H
    have c2b0 : decide (x4_1 < 70) = false := decide_eq_false c2
    clear c2
    simp only [Option.some.injEq, Prod.mk.injEq] at H
    obtain ⟨rfl, rfl, rfl⟩ := H
    go_wp2
    go_ret
    exact ⟨by first | rfl | (simp [errW_none, errW_some] <;> rfl) | (simp [*, errW_none, errW_some] <;> rfl), by repeat (first | (with_reducible first | exact HI0.out | apply IsS76.alloc | apply IsS76.drewN | apply IsS76.drew | apply IsS76.set_1 | apply IsS76.set_2) | exact HI0.out), by repeat (first | (with_reducible first | exact HB.out | apply below_alloc | apply pw_below_drewN | apply below_drew1 | refine below_set ?_ (IsS76.ge HI0.out)) | exact HB.out), by repeat (first | (with_reducible first | exact HK.out | apply KeepBut.set_ | apply keep_drewN | apply keep_drew | apply keep_alloc) | exact HK.out)⟩
end Go.Proofs.Ytbncfhmfohpfbaa.X
end

section
namespace Go.Proofs.Ytbncfhmfohpfbaa.X
open Go.RowKit Go.Proofs.YtbncfhmfohpfbaaW.PrintWords Go.Proofs.YtbncfhmfohpfbaaW.PrintLast Go.Proofs.YtbncfhmfohpfbaaW.PrintMore
attribute [local go_sem] max2_int min2_int max_two min_two max_three min_three max_four min_four
set_option linter.unusedVariables false
set_option linter.unusedSimpArgs false
def marquetryref13_Reader_signed.f (k : Nat) (s0_0 : List Int) (s0_1 : Int) (s0_2 : Int) : Option (Int × Int × Int) := (marquetryref13_Reader_number.f k s0_0 s0_1 s0_2).bind fun bt300 => (if (Int.tmod bt300.1 2) = 1 then (some (wrap64 ((wrap64 (-(wrap64 (IntKind.u64.wrap (Int.tdiv bt300.1 2))))) - 1), bt300.2.1, bt300.2.2)) else (some (wrap64 (IntKind.u64.wrap (Int.tdiv bt300.1 2)), bt300.2.1, bt300.2.2)))
theorem marquetryref13_Reader_signed.mono : ∀ a0 a1 a2 k, LeO (marquetryref13_Reader_signed.f k a0 a1 a2) (marquetryref13_Reader_signed.f (k + 1) a0 a1 a2) := by
 intro a0 a1 a2 k
 unfold marquetryref13_Reader_signed.f
 repeat' first
   | (with_reducible exact marquetryref13_Reader_number.mono _ _ _ _)
   | (with_reducible exact LeO.refl _)
   | (with_reducible exact LeO.none _)
   | (with_reducible refine LeO.ite ?_ ?_)
   | (with_reducible refine LeO.bind ?_ (fun _ => ?_))
   | exact marquetryref13_Reader_number.mono _ _ _ _
   | exact LeO.none _
   | refine LeO.ite ?_ ?_
   | refine LeO.bind ?_ (fun _ => ?_)
set_option maxHeartbeats 8000000 in
set_option maxRecDepth 100000 in
theorem marquetryref13_Reader_signed.calls (k : Nat) (g : Nat) (s0_0 : List Int) (s0_1 : Int) (s0_2 : Int) (r1 : Int) (r2 : Int) (r3 : Int) (w0 w : World) (hI : IsS76 w0 w g s0_0 s0_1 s0_2) (hB : Below w0.heap.size w0 w) (h : marquetryref13_Reader_signed.f k s0_0 s0_1 s0_2 = some (r1, r2, r3)) :
  Calls Try.prog 43 #[.pointer (some ⟨g, 0, none⟩)] w fun e w' => e = .returned (.int .i64 r1) ∧ IsS76 w0 w' g s0_0 r2 r3 ∧ Below w0.heap.size w0 w' ∧ KeepBut w w' g none := by
 have HI0 := Aside0.mk hI
 have HK := Aside0.mk (KeepBut.refl w g none)
 have HL := Aside0.mk hB.size
 clear hI
 have HW0 := Aside0.mk hB.size
 have HB := Aside0.mk hB
 clear hB
 have H : ((marquetryref13_Reader_number.f k s0_0 s0_1 s0_2).bind fun bt300 => (if (Int.tmod bt300.1 2) = 1 then (some (wrap64 ((wrap64 (-(wrap64 (IntKind.u64.wrap (Int.tdiv bt300.1 2))))) - 1), bt300.2.1, bt300.2.2)) else (some (wrap64 (IntKind.u64.wrap (Int.tdiv bt300.1 2)), bt300.2.1, bt300.2.2)))) = some (r1, r2, r3) := h
 clear h
 replace H := Option.bind_eq_some_iff.mp H
 obtain ⟨⟨t300, t301, t302⟩, A20, H⟩ := H
 replace H : (if (Int.tmod t300 2) = 1 then (some (wrap64 ((wrap64 (-(wrap64 (IntKind.u64.wrap (Int.tdiv t300 2))))) - 1), t301, t302)) else (some (wrap64 (IntKind.u64.wrap (Int.tdiv t300 2)), t301, t302))) = some (r1, r2, r3) := H
 have A2 := Aside0.mk A20
 clear A20
 by_cases c3 : (Int.tmod t300 2) = 1
 ·rw [if_pos c3] at H
  have c3b0 : ((Int.tmod t300 2) == 1) = true := beq_iff_eq.mpr c3
  have c3b1 : ((Int.tmod t300 2) != 1) = false := bne_eq_false_iff_eq.mpr c3
  clear c3
  simp only [Option.some.injEq, Prod.mk.injEq] at H
  obtain ⟨rfl, rfl, rfl⟩ := H
  go_enter Try.func43, Try.ntmps43
  go_wp2_with (first | ((with_reducible refine gate_callee (f := 41) rfl ?_); refine goesL_ (some 5) rfl rfl Try.func41 (by kernel_rfl) rfl #[.pointer (some ⟨g, 0, none⟩)] rfl (by (try simp only [List.map_toArray, List.map_cons, List.map_nil]); first | done | rfl | (simp only [List.length_drop, List.length_take]; rfl)) ?_; (with_reducible refine (marquetryref13_Reader_number.calls k g s0_0 s0_1 s0_2 t300 t301 t302 w0 _ ?side1 ?side2 A2.out).mono ?_); (case side1 => repeat (first | (with_reducible first | exact HI0.out | apply IsS76.alloc | apply IsS76.drewN | apply IsS76.drew | apply IsS76.set_1 | apply IsS76.set_2) | exact HI0.out)); (case side2 => repeat (first | (with_reducible first | exact HB.out | apply below_alloc | apply pw_below_drewN | apply below_drew1 | refine below_set ?_ (IsS76.ge HI0.out)) | exact HB.out)); rintro e w4 ⟨rfl, hi, hb, hk⟩; refine ⟨_, rfl, ?_⟩; have n0_ := Aside0.mk (KeepBut.trans (by repeat (first | (with_reducible first | exact HK.out | apply KeepBut.set_ | apply keep_drewN | apply keep_drew | apply keep_alloc) | exact HK.out)) hk (.inl rfl)); have n1_ := Aside0.mk (hb); have n2_ := Aside0.mk (hi); clear HK; clear HB; clear HI0; have HK := n0_; have HB := n1_; have HI0 := n2_; clear n0_ n1_ n2_; (try clear hb); (try clear hb2); (try clear hk); (try clear hi)))
  go_ret
  exact ⟨by first | rfl | (simp [errW_none, errW_some] <;> rfl) | (simp [*, errW_none, errW_some] <;> rfl), by repeat (first | (with_reducible first | exact HI0.out | apply IsS76.alloc | apply IsS76.drewN | apply IsS76.drew | apply IsS76.set_1 | apply IsS76.set_2) | exact HI0.out), by repeat (first | (with_reducible first | exact HB.out | apply below_alloc | apply pw_below_drewN | apply below_drew1 | refine below_set ?_ (IsS76.ge HI0.out)) | exact HB.out), by repeat (first | (with_reducible first | exact HK.out | apply KeepBut.set_ | apply keep_drewN | apply keep_drew | apply keep_alloc) | exact HK.out)⟩
 ·rw [if_neg c3] at H
  have c3b0 : ((Int.tmod t300 2) == 1) = false := beq_eq_false_iff_ne.mpr c3
  have c3b1 : ((Int.tmod t300 2) != 1) = true := bne_iff_ne.mpr c3
  simp only [Option.some.injEq, Prod.mk.injEq] at H
  obtain ⟨rfl, rfl, rfl⟩ := H
  go_enter Try.func43, Try.ntmps43
  go_wp2_with (first | ((with_reducible refine gate_callee (f := 41) rfl ?_); refine goesL_ (some 5) rfl rfl Try.func41 (by kernel_rfl) rfl #[.pointer (some ⟨g, 0, none⟩)] rfl (by (try simp only [List.map_toArray, List.map_cons, List.map_nil]); first | done | rfl | (simp only [List.length_drop, List.length_take]; rfl)) ?_; (with_reducible refine (marquetryref13_Reader_number.calls k g s0_0 s0_1 s0_2 t300 t301 t302 w0 _ ?side1 ?side2 A2.out).mono ?_); (case side1 => repeat (first | (with_reducible first | exact HI0.out | apply IsS76.alloc | apply IsS76.drewN | apply IsS76.drew | apply IsS76.set_1 | apply IsS76.set_2) | exact HI0.out)); (case side2 => repeat (first | (with_reducible first | exact HB.out | apply below_alloc | apply pw_below_drewN | apply below_drew1 | refine below_set ?_ (IsS76.ge HI0.out)) | exact HB.out)); rintro e w5 ⟨rfl, hi, hb, hk⟩; refine ⟨_, rfl, ?_⟩; have n0_ := Aside0.mk (KeepBut.trans (by repeat (first | (with_reducible first | exact HK.out | apply KeepBut.set_ | apply keep_drewN | apply keep_drew | apply keep_alloc) | exact HK.out)) hk (.inl rfl)); have n1_ := Aside0.mk (hb); have n2_ := Aside0.mk (hi); clear HK; clear HB; clear HI0; have HK := n0_; have HB := n1_; have HI0 := n2_; clear n0_ n1_ n2_; (try clear hb); (try clear hb2); (try clear hk); (try clear hi)))
  go_ret
  exact ⟨by first | rfl | (simp [errW_none, errW_some] <;> rfl) | (simp [*, errW_none, errW_some] <;> rfl), by repeat (first | (with_reducible first | exact HI0.out | apply IsS76.alloc | apply IsS76.drewN | apply IsS76.drew | apply IsS76.set_1 | apply IsS76.set_2) | exact HI0.out), by repeat (first | (with_reducible first | exact HB.out | apply below_alloc | apply pw_below_drewN | apply below_drew1 | refine below_set ?_ (IsS76.ge HI0.out)) | exact HB.out), by repeat (first | (with_reducible first | exact HK.out | apply KeepBut.set_ | apply keep_drewN | apply keep_drew | apply keep_alloc) | exact HK.out)⟩
end Go.Proofs.Ytbncfhmfohpfbaa.X
end

section
namespace Go.Proofs.Ytbncfhmfohpfbaa.Nx
open Go.RowKit Go.Proofs.Ytbncfhmfohpfbaa.Bx
theorem or_low_high (i : Nat) (x y : Int) (hx0 : 0 ≤ x) (hx : x < 2 ^ i) (hy0 : 0 ≤ y) (hy : y % 2 ^ i = 0) (hy1 : y < 18446744073709551616) (hx1 : x < 18446744073709551616) :
    bits .or .u64 x y = x + y := by
  have := bits_join .u64 64 (by decide) wraps_u64 i y x hy0 hy (by omega) hx0 hx (by omega)
  obtain ⟨a, rfl⟩ := Int.eq_ofNat_of_zero_le hx0
  obtain ⟨b, rfl⟩ := Int.eq_ofNat_of_zero_le hy0
  have c := (bits_nat .u64 64 (by decide) wraps_u64 a b (by omega) (by omega)).2
  have d := (bits_nat .u64 64 (by decide) wraps_u64 b a (by omega) (by omega)).2
  rw [Nat.or_comm] at c
  have : bits .or .u64 (a : Int) (b : Int) = bits .or .u64 (b : Int) (a : Int) := c.trans d.symm
  omega
end Go.Proofs.Ytbncfhmfohpfbaa.Nx
end

section
namespace Go.Proofs.Ytbncfhmfohpfbaa.Px
set_option linter.unusedVariables false
set_option linter.unusedSimpArgs false
open Go.RowKit Go.Proofs.Ytbncfhmfohpfbaa.Bx Go.Proofs.Ytbncfhmfohpfbaa.Nx
def bitsFrom (n : Int) : Nat → Nat → List Int
  | _, 0 => []
  | i, d + 1 => n / 2 ^ i % 2 :: bitsFrom n (i + 1) d
theorem bitsFrom_length (n : Int) : ∀ d i, (bitsFrom n i d).length = d
  | 0, _ => rfl
  | d + 1, i => by simp [bitsFrom, bitsFrom_length n d]
theorem bitsFrom_range (n : Int) : ∀ d i, ∀ b ∈ bitsFrom n i d, b = 0 ∨ b = 1
  | 0, _, b, h => by simp [bitsFrom] at h
  | d + 1, i, b, h => by
    simp only [bitsFrom, List.mem_cons] at h
    rcases h with rfl | h
    · omega
    · exact bitsFrom_range n d _ b h
def allBits (w : Nat) (l : List Int) : List Int := l.flatMap fun x => bitsFrom x 0 w
theorem allBits_cons (w : Nat) (x : Int) (l : List Int) : allBits w (x :: l) = bitsFrom x 0 w ++ allBits w l := by simp [allBits]
theorem allBits_length (w : Nat) : ∀ l, (allBits w l).length = l.length * w
  | [] => by simp [allBits]
  | x :: l => by rw [allBits_cons, List.length_append, bitsFrom_length, allBits_length w l, List.length_cons, Nat.add_mul]; omega
theorem allBits_range (w : Nat) (l : List Int) : ∀ b ∈ allBits w l, b = 0 ∨ b = 1 := by
  intro b h
  obtain ⟨x, _, hx⟩ := List.mem_flatMap.1 h
  exact bitsFrom_range x w 0 b hx
def byteAt (B : List Int) (j : Nat) : Int :=
  B.getD (8 * j) 0 + 2 * B.getD (8 * j + 1) 0 + 4 * B.getD (8 * j + 2) 0 + 8 * B.getD (8 * j + 3) 0 + 16 * B.getD (8 * j + 4) 0 + 32 * B.getD (8 * j + 5) 0 + 64 * B.getD (8 * j + 6) 0 + 128 * B.getD (8 * j + 7) 0
def packB (B : List Int) : List Int := (List.range ((B.length + 7) / 8)).map (byteAt B)
theorem packB_length (B : List Int) : (packB B).length = (B.length + 7) / 8 := by simp [packB]
theorem getD_snoc (B : List Int) (b : Int) (m : Nat) : (B ++ [b]).getD m 0 = if m = B.length then b else B.getD m 0 := by
  simp only [List.getD_eq_getElem?_getD]
  by_cases h : m = B.length
  · subst h; simp
  · rw [if_neg h]
    rcases Nat.lt_or_ge m B.length with h1 | h1
    · rw [List.getElem?_append_left h1]
    · rw [List.getElem?_append_right h1, List.getElem?_eq_none (by simp; omega), List.getElem?_eq_none h1]
theorem getD_out (B : List Int) {m : Nat} (h : B.length ≤ m) : B.getD m 0 = 0 := by
  rw [List.getD_eq_getElem?_getD, List.getElem?_eq_none h]; rfl
theorem getD_bit {B : List Int} (hB : ∀ b ∈ B, b = 0 ∨ b = 1) (m : Nat) : B.getD m 0 = 0 ∨ B.getD m 0 = 1 := by
  rw [List.getD_eq_getElem?_getD]
  by_cases h : m < B.length
  · rw [List.getElem?_eq_getElem h]; exact hB _ (List.getElem_mem h)
  · rw [List.getElem?_eq_none (by omega)]; exact .inl rfl
theorem byteAt_snoc (B : List Int) (b : Int) (j : Nat) : byteAt (B ++ [b]) j = byteAt B j + if j = B.length / 8 then b * 2 ^ (B.length % 8) else 0 := by
  unfold byteAt
  simp only [getD_snoc]
  by_cases h : j = B.length / 8
  · rw [if_pos h]
    have q : ∀ t, (8 * j + t = B.length) = (t = B.length % 8) := fun t => propext (by omega)
    have q0 : (8 * j = B.length) = (0 = B.length % 8) := propext (by omega)
    have o := fun m => getD_out B (m := m)
    have o0 := o (8 * j); have o1 := o (8 * j + 1); have o2 := o (8 * j + 2); have o3 := o (8 * j + 3); have o4 := o (8 * j + 4); have o5 := o (8 * j + 5); have o6 := o (8 * j + 6); have o7 := o (8 * j + 7)
    have hr : B.length % 8 = 0 ∨ B.length % 8 = 1 ∨ B.length % 8 = 2 ∨ B.length % 8 = 3 ∨ B.length % 8 = 4 ∨ B.length % 8 = 5 ∨ B.length % 8 = 6 ∨ B.length % 8 = 7 := by omega
    simp only [q, q0]
    rcases hr with e | e | e | e | e | e | e | e <;> rw [e] <;> simp (config := { decide := true }) only [if_true, if_false, Int.reducePow, Int.pow_zero] <;> omega
  · rw [if_neg h]
    have : ∀ t, t < 8 → 8 * j + t ≠ B.length := by omega
    rw [if_neg (by simpa using this 0 (by omega)), if_neg (this 1 (by omega)), if_neg (this 2 (by omega)), if_neg (this 3 (by omega)), if_neg (this 4 (by omega)), if_neg (this 5 (by omega)), if_neg (this 6 (by omega)), if_neg (this 7 (by omega))]
    omega
theorem byteAt_range {B : List Int} (hB : ∀ b ∈ B, b = 0 ∨ b = 1) (j : Nat) : 0 ≤ byteAt B j ∧ byteAt B j ≤ 255 := by
  unfold byteAt
  have g := getD_bit hB
  have g0 := g (8 * j); have g1 := g (8 * j + 1); have g2 := g (8 * j + 2); have g3 := g (8 * j + 3); have g4 := g (8 * j + 4); have g5 := g (8 * j + 5); have g6 := g (8 * j + 6); have g7 := g (8 * j + 7)
  omega
theorem byteAt_last {B : List Int} (hB : ∀ b ∈ B, b = 0 ∨ b = 1) : byteAt B (B.length / 8) < 2 ^ (B.length % 8) := by
  unfold byteAt
  have g := getD_bit hB
  have o := fun m => getD_out B (m := m)
  generalize hj : B.length / 8 = j
  have g0 := g (8 * j); have g1 := g (8 * j + 1); have g2 := g (8 * j + 2); have g3 := g (8 * j + 3); have g4 := g (8 * j + 4); have g5 := g (8 * j + 5); have g6 := g (8 * j + 6); have g7 := g (8 * j + 7)
  have o0 := o (8 * j); have o1 := o (8 * j + 1); have o2 := o (8 * j + 2); have o3 := o (8 * j + 3); have o4 := o (8 * j + 4); have o5 := o (8 * j + 5); have o6 := o (8 * j + 6); have o7 := o (8 * j + 7)
  have hr : B.length % 8 = 0 ∨ B.length % 8 = 1 ∨ B.length % 8 = 2 ∨ B.length % 8 = 3 ∨ B.length % 8 = 4 ∨ B.length % 8 = 5 ∨ B.length % 8 = 6 ∨ B.length % 8 = 7 := by omega
  rcases hr with e | e | e | e | e | e | e | e <;> rw [e] <;> simp only [Int.reducePow, Int.pow_zero] <;> omega
theorem packB_range {B : List Int} (hB : ∀ b ∈ B, b = 0 ∨ b = 1) : ∀ x ∈ packB B, 0 ≤ x ∧ x ≤ 255 := by
  intro x hx
  obtain ⟨j, _, rfl⟩ := List.mem_map.1 hx
  exact byteAt_range hB j
theorem map_set (B : List Int) (b : Int) (n : Nat) (h : B.length / 8 < n) :
    ((List.range n).map (byteAt B)).set (B.length / 8) (byteAt B (B.length / 8) + b * 2 ^ (B.length % 8)) = (List.range n).map (byteAt (B ++ [b])) := by
  apply List.ext_getElem?
  intro j
  rw [List.getElem?_set]
  by_cases e : B.length / 8 = j
  · subst e
    simp [h, byteAt_snoc]
  · rw [if_neg e]
    simp only [List.getElem?_map]
    rcases Nat.lt_or_ge j n with hj | hj
    · rw [List.getElem?_range hj]
      simp only [Option.map_some, byteAt_snoc]; rw [if_neg (fun h : j = B.length / 8 => e h.symm)]; simp
    · rw [List.getElem?_eq_none (by simpa using hj)]; rfl
theorem map_same (B : List Int) (n : Nat) : (List.range n).map (byteAt (B ++ [0])) = (List.range n).map (byteAt B) := by
  apply List.map_congr_left
  intro j _
  rw [byteAt_snoc]; split <;> omega
theorem packB_zero (n : Nat) : (List.range n).map (byteAt []) = List.replicate n 0 := by
  apply List.ext_getElem?
  intro j
  simp only [List.getElem?_map]
  rcases Nat.lt_or_ge j n with hj | hj
  · rw [List.getElem?_range hj]; simp [hj, byteAt]
  · rw [List.getElem?_eq_none (by simpa using hj)]; simp [hj]
end Go.Proofs.Ytbncfhmfohpfbaa.Px
end

section
namespace Go.Proofs.Ytbncfhmfohpfbaa.D13
set_option linter.unusedVariables false
set_option linter.unusedSimpArgs false
open Go.RowKit Go.Proofs.Ytbncfhmfohpfbaa.X Go.Proofs.YtbncfhmfohpfbaaW.PrintWords Go.Proofs.YtbncfhmfohpfbaaW.PrintLast Go.Proofs.YtbncfhmfohpfbaaW.PrintMore Go.Proofs.Ytbncfhmfohpfbaa.Bx Go.Proofs.Ytbncfhmfohpfbaa.Nx
def vb (n : Nat) : List Int := if n < 128 then [(n : Int)] else ((n % 128 + 128 : Nat) : Int) :: vb (n / 128)
termination_by n
decreasing_by omega
theorem vb_small {n : Nat} (h : n < 128) : vb n = [(n : Int)] := by rw [vb, if_pos h]
theorem vb_big {n : Nat} (h : 128 ≤ n) : vb n = ((n % 128 + 128 : Nat) : Int) :: vb (n / 128) := by rw [vb, if_neg (by omega)]
theorem vb_length : ∀ (d : Nat) (n : Nat), n < 128 ^ (d + 1) → 1 ≤ (vb n).length ∧ (vb n).length ≤ d + 1
  | 0, n, h => by rw [vb_small (by simpa using h)]; simp
  | d + 1, n, h => by
    by_cases c : n < 128
    · rw [vb_small c]; simp
    · rw [vb_big (by omega)]
      have := vb_length d (n / 128) (by rw [Nat.pow_succ] at h; omega)
      simp; omega
theorem vb_length64 {n : Nat} (h : n < 18446744073709551616) : 1 ≤ (vb n).length ∧ (vb n).length ≤ 10 := vb_length 9 n (by omega)
theorem vb_range : ∀ (n : Nat), ∀ x ∈ vb n, 0 ≤ x ∧ x ≤ 255 := by
  intro n
  induction n using Nat.strongRecOn with
  | _ n ih =>
    intro x hx
    by_cases c : n < 128
    · rw [vb_small c] at hx; simp at hx; omega
    · rw [vb_big (by omega), List.mem_cons] at hx
      rcases hx with rfl | hx
      · omega
      · exact ih (n / 128) (by omega) x hx
set_option maxRecDepth 10000 in
theorem or_128_u8 {y : Int} (h0 : 0 ≤ y) (h1 : y ≤ 255) : bits .or .u8 y 128 = y % 128 + 128 := by
  obtain ⟨a, rfl⟩ := Int.eq_ofNat_of_zero_le h0
  have e := (bits_nat .u8 8 (by decide) wraps_u8 a 128 (by omega) (by decide)).2
  have e2 : ((128 : Nat) : Int) = 128 := rfl
  rw [e2] at e
  have k : ∀ b : Fin 256, b.val ||| 128 = b.val % 128 + 128 := by decide
  have := k ⟨a, by omega⟩
  simp only [] at this
  rw [e, this]; omega
theorem number_l : ∀ (k : Nat) (acc : List Int) (x : Int), 0 ≤ x → x ≤ 18446744073709551615 → acc.length + (vb x.toNat).length < 140737488355328 → (vb x.toNat).length ≤ k → delta_number.l0 k acc x = some (acc ++ vb x.toNat)
  | 0, acc, x, _, _, _, h => by
    exfalso
    by_cases c : x.toNat < 128
    · rw [vb_small c] at h; simp at h
    · rw [vb_big (by omega)] at h; simp at h
  | k + 1, acc, x, h0, h1, h2, h => by
    rw [delta_number.l0, or_128_u8 (by omega) (by omega)]
    by_cases c : x ≥ 128
    · have e := vb_big (n := x.toNat) (by omega)
      rw [e, List.length_cons] at h h2
      rw [if_pos c, if_pos (by omega), e]
      have q : (x / 128).toNat = x.toNat / 128 := by omega
      rw [number_l k _ (x / 128) (by omega) (by omega) (by rw [q]; simp; omega) (by rw [q]; omega), q]
      have r : x % 256 % 128 + 128 = ((x.toNat % 128 + 128 : Nat) : Int) := by omega
      rw [r]; simp
    · have e := vb_small (n := x.toNat) (by omega)
      rw [e, List.length_singleton] at h2
      rw [if_neg c, if_pos (by omega), e, show x % 256 = ((x.toNat : Nat) : Int) by omega]
theorem number {k : Nat} {acc : List Int} {x : Int} (hk : 10 ≤ k) (ha : acc.length ≤ 100000000000) (h0 : 0 ≤ x) (h1 : x ≤ 18446744073709551615) : delta_number.f k acc x = some (acc ++ vb x.toNat) := by
  have := vb_length64 (n := x.toNat) (by omega)
  exact number_l k acc x h0 h1 (by omega) (by omega)
def zz (y : Int) : Int := if 0 ≤ y then 2 * y else -2 * y - 1
theorem zz_range {y : Int} (h : -9223372036854775808 ≤ y) (h' : y ≤ 9223372036854775807) : 0 ≤ zz y ∧ zz y ≤ 18446744073709551615 := by unfold zz; split <;> omega
theorem signed {k : Nat} {acc : List Int} {y : Int} (hk : 10 ≤ k) (ha : acc.length ≤ 100000000000) (h : -9223372036854775808 ≤ y) (h' : y ≤ 9223372036854775807) : delta_signed.f k acc y = some (acc ++ vb (zz y).toNat) := by
  unfold delta_signed.f
  have e : bits .xor .u64 (IntKind.u64.wrap (IntKind.u64.wrap y * 2)) (IntKind.u64.wrap (y / 9223372036854775808)) = zz y := by
    unfold zz
    by_cases c : 0 ≤ y
    · rw [if_pos c, show y / 9223372036854775808 = 0 by omega, show IntKind.u64.wrap 0 = 0 by rfl, xor_zero_u64, u64w, u64w]
      omega
    · rw [if_neg c, show y / 9223372036854775808 = -1 by omega, show IntKind.u64.wrap (-1) = 18446744073709551615 by rfl, xor_ones_u64, u64w, u64w]
      omega
  rw [e, number hk ha (zz_range h h').1 (zz_range h h').2]; rfl
theorem and_127_u8 (x : Int) (h0 : 0 ≤ x) (h1 : x ≤ 255) : bits .and .u8 x 127 = x % 128 := bits_mask .u8 8 (by decide) wraps_u8 7 (by decide) x h0 (by omega)
theorem numN_eq {n x : Int} {j : Nat} (h0 : 0 ≤ n) (h1 : n < 2 ^ (7 * j)) (x0 : 0 ≤ x) (x1 : x ≤ 255) (hb : (x % 128) * 2 ^ (7 * j) < 18446744073709551616) (h2 : n < 18446744073709551616) :
    numN n x (7 * j) = n + (x % 128) * 2 ^ (7 * j) := by
  unfold numN
  rw [and_127_u8 x x0 x1, u64w, u64w, Int.emod_eq_of_lt (by omega) (by omega : x % 128 < 18446744073709551616)]
  have hp : (0 : Int) < 2 ^ (7 * j) := Int.pow_pos (by decide)
  have hm : 0 ≤ (x % 128) * 2 ^ (7 * j) := Int.mul_nonneg (by omega) (by omega)
  rw [Int.emod_eq_of_lt hm hb]
  exact or_low_high (7 * j) _ _ h0 h1 hm (Int.mul_emod_left _ _) hb h2
theorem numS_vb : ∀ (d : Nat) (n : Nat) (tl : List Int) (j : Nat) (acc : Int), (vb n).length ≤ d → 0 ≤ acc → acc < 2 ^ (7 * j) → acc + n * 2 ^ (7 * j) < 18446744073709551616 → (0 < j → 0 < n) → j ≤ 9 →
    numS (7 * j) acc (vb n ++ tl) = .ok (acc + n * 2 ^ (7 * j), tl)
  | 0, n, tl, j, acc, h, _, _, _, _, _ => by
    exfalso
    by_cases c : n < 128
    · rw [vb_small c] at h; simp at h
    · rw [vb_big (by omega)] at h; simp at h
  | d + 1, n, tl, j, acc, h, ha, ha1, hn, hj, hj9 => by
    have hP : (0 : Int) < 2 ^ (7 * j) := Int.pow_pos (by decide)
    by_cases c : n < 128
    · rw [vb_small c, List.singleton_append, numS]
      have h9 : 7 * j < 63 ∨ (n : Int) < 2 := by
        rcases Nat.lt_or_ge j 9 with q | q
        · exact .inl (by omega)
        · right
          have : j = 9 := by omega
          subst this
          have : (2 : Int) ^ (7 * 9) = 9223372036854775808 := by decide
          omega
      rw [if_pos ⟨h9, by rcases Nat.eq_zero_or_pos j with q | q; exact .inl (by omega); exact .inr (by have := hj q; omega)⟩, if_pos (by omega)]
      rw [numN_eq ha ha1 (by omega) (by omega) (by rw [show (n : Int) % 128 = n by omega]; omega) (by have : 0 ≤ (n : Int) * 2 ^ (7 * j) := Int.mul_nonneg (by omega) (by omega); omega)]
      rw [show (n : Int) % 128 = n by omega]
    · rw [vb_big (by omega), List.cons_append, numS]
      rw [vb_big (by omega), List.length_cons] at h
      have hj9' : j < 9 := by
        rcases Nat.lt_or_ge j 9 with q | q
        · exact q
        · exfalso
          have : j = 9 := by omega
          subst this
          have : (2 : Int) ^ (7 * 9) = 9223372036854775808 := by decide
          omega
      rw [if_pos ⟨.inl (by omega), .inr (by omega)⟩, if_neg (by omega)]
      have hq : (2 : Int) ^ (7 * (j + 1)) = 128 * 2 ^ (7 * j) := by rw [show 7 * (j + 1) = 7 * j + 7 by omega, Int.pow_add]; rw [Int.mul_comm]; rfl
      generalize hPP : (2 : Int) ^ (7 * j) = P at *
      have hsum : (n : Int) * P = ((n % 128 : Nat) : Int) * P + ((n / 128 : Nat) : Int) * (128 * P) := by
        have : (n : Int) = ((n % 128 : Nat) : Int) + ((n / 128 : Nat) : Int) * 128 := by omega
        conv => lhs; rw [this]
        rw [Int.add_mul, Int.mul_assoc]
      have h1 : 0 ≤ ((n / 128 : Nat) : Int) * (128 * P) := Int.mul_nonneg (by omega) (by omega)
      have h2 : 0 ≤ ((n % 128 : Nat) : Int) * P := Int.mul_nonneg (by omega) (by omega)
      have h3 : ((n % 128 : Nat) : Int) * P ≤ 127 * P := Int.mul_le_mul_of_nonneg_right (by omega) (by omega)
      rw [numN_eq (j := j) ha (by rw [hPP]; exact ha1) (by omega) (by omega) (by rw [hPP, show (((n % 128 + 128 : Nat) : Int)) % 128 = ((n % 128 : Nat) : Int) by omega]; omega) (by omega), hPP,
        show (((n % 128 + 128 : Nat) : Int)) % 128 = ((n % 128 : Nat) : Int) by omega]
      have := numS_vb d (n / 128) tl (j + 1) (acc + ((n % 128 : Nat) : Int) * P) (by omega) (by omega) (by rw [hq]; omega) (by rw [hq]; omega) (by intro _; omega) (by omega)
      rw [show 7 * j + 7 = 7 * (j + 1) by omega, this, hq]
      congr 2
      omega
theorem numS_back {n : Nat} (h : n < 18446744073709551616) (tl : List Int) : numS 0 0 (vb n ++ tl) = .ok ((n : Int), tl) := by
  have := numS_vb 10 n tl 0 0 (vb_length64 h).2 (by omega) (by simp) (by simp; omega) (by omega) (by omega)
  simpa using this
theorem sgnV_eq {a : Int} (h : 0 ≤ a) (h' : a ≤ 18446744073709551615) : sgnV a = if a % 2 = 0 then a / 2 else - (a / 2) - 1 := by
  unfold sgnV
  rw [and_one_u64 a h h']
  by_cases c : a % 2 = 0
  · rw [if_pos c, c, show wrap64 (-(wrap64 0)) = 0 by simp [wrap64], xor_zero_i64]
    unfold wrap64; omega
  · rw [if_neg c, show a % 2 = 1 by omega, show wrap64 (-(wrap64 1)) = -1 by simp [wrap64], xor_ones_i64]
    unfold wrap64; omega
theorem sgnV_zz {y : Int} (h : -9223372036854775808 ≤ y) (h' : y ≤ 9223372036854775807) : sgnV (zz y) = y := by
  rw [sgnV_eq (zz_range h h').1 (zz_range h h').2]
  unfold zz
  split <;> split <;> omega
theorem signed_back {y : Int} (h : -9223372036854775808 ≤ y) (h' : y ≤ 9223372036854775807) (tl : List Int) : mapS sgnV (numS 0 0 (vb (zz y).toNat ++ tl)) = .ok (y, tl) := by
  have hz := zz_range h h'
  rw [numS_back (by omega)]
  show Except.ok (sgnV (((zz y).toNat : Nat) : Int), tl) = _
  rw [show (((zz y).toNat : Nat) : Int) = zz y by omega, sgnV_zz h h']
structure Good {α : Type} (P : List Int → Except Int (α × List Int)) : Prop where
  took : ∀ b v r, P b = .ok (v, r) → ∃ c, b = c ++ r ∧ (∀ r', P (c ++ r') = .ok (v, r')) ∧ ∀ p s, c = p ++ s → s ≠ [] → P p = .error 6
theorem Good.ok {α : Type} (v : α) : Good fun b => .ok (v, b) := ⟨fun b v' r h => by
  obtain ⟨rfl, rfl⟩ : v = v' ∧ b = r := by simpa using h
  exact ⟨[], rfl, fun _ => rfl, fun p s h hs => by simp at h; exact absurd h.2 hs⟩⟩
theorem Good.err {α : Type} (x : Int) : Good fun _ => (.error x : Except Int (α × List Int)) := ⟨fun _ _ _ h => by cases h⟩
theorem Good.ite {α : Type} {c : Prop} [Decidable c] {P Q : List Int → Except Int (α × List Int)} (hp : Good P) (hq : Good Q) : Good fun b => if c then P b else Q b := by
  by_cases h : c
  · simp only [if_pos h]; exact hp
  · simp only [if_neg h]; exact hq
theorem Good.and {α β : Type} {P : List Int → Except Int (α × List Int)} {Q : α → List Int → Except Int (β × List Int)} (hp : Good P) (hq : ∀ v, Good (Q v)) : Good fun b => andS (P b) (Q · ·) := by
  refine ⟨fun b v r h => ?_⟩
  cases h1 : P b with
  | error x => simp only [h1, andS_err] at h; cases h
  | ok p =>
    obtain ⟨v1, r1⟩ := p
    simp only [h1, andS_ok] at h
    obtain ⟨c1, rfl, a1, b1⟩ := hp.took _ _ _ h1
    obtain ⟨c2, rfl, a2, b2⟩ := (hq v1).took _ _ _ h
    refine ⟨c1 ++ c2, by simp, fun r' => ?_, fun p s he hs => ?_⟩
    · simp only [List.append_assoc, a1, andS_ok, a2]
    · rcases List.append_eq_append_iff.1 he with ⟨a', rfl, ha⟩ | ⟨c', rfl, hc⟩
      · simp only [a1, andS_ok]
        exact b2 a' s ha hs
      · by_cases hc0 : c' = []
        · subst hc0
          simp only [List.append_nil] at a1 b1 ⊢
          have hp0 := a1 []
          rw [List.append_nil] at hp0
          simp only [hp0, andS_ok]
          exact b2 [] s (by simpa using hc.symm) hs
        · simp only [b1 p c' rfl hc0, andS_err]
theorem Good.map {α β : Type} {P : List Int → Except Int (α × List Int)} (f : α → β) (hp : Good P) : Good fun b => mapS f (P b) := by
  have := Good.and hp (fun v => Good.ok (f v))
  refine ⟨fun b v r h => ?_⟩
  have e : ∀ b, mapS f (P b) = andS (P b) fun v b => .ok (f v, b) := fun b => by cases P b <;> rfl
  simp only [e] at h ⊢
  exact this.took b v r h
end Go.Proofs.Ytbncfhmfohpfbaa.D13
end

section
namespace Go.Proofs.Ytbncfhmfohpfbaa.D13
set_option linter.unusedVariables false
set_option linter.unusedSimpArgs false
open Go.RowKit Go.Proofs.Ytbncfhmfohpfbaa.X Go.Proofs.YtbncfhmfohpfbaaW.PrintWords Go.Proofs.YtbncfhmfohpfbaaW.PrintLast Go.Proofs.YtbncfhmfohpfbaaW.PrintMore Go.Proofs.Ytbncfhmfohpfbaa.Bx Go.Proofs.Ytbncfhmfohpfbaa.Nx Go.Proofs.Ytbncfhmfohpfbaa.Px
def bt (l : List Int) (i : Nat) : Int := l.getD (i / 8) 0 / 2 ^ (i % 8) % 2
theorem bt_range (l : List Int) (i : Nat) : bt l i = 0 ∨ bt l i = 1 := by unfold bt; omega
def valF (g : Nat → Int) : Nat → Nat → Int
  | _, 0 => 0
  | P, d + 1 => g P + 2 * valF g (P + 1) d
theorem valF_snoc (g : Nat → Int) : ∀ (d P : Nat), valF g P (d + 1) = valF g P d + g (P + d) * 2 ^ d
  | 0, P => by simp [valF]
  | d + 1, P => by
    rw [valF, valF_snoc g d (P + 1), valF, Int.pow_succ, show P + 1 + d = P + (d + 1) by omega, Int.mul_add, Int.add_assoc, ← Int.mul_assoc, Int.mul_comm (2 ^ d) 2, ← Int.mul_assoc, Int.mul_comm 2 (g (P + (d + 1)))]
theorem valF_range {g : Nat → Int} (hg : ∀ i, g i = 0 ∨ g i = 1) : ∀ (d P : Nat), 0 ≤ valF g P d ∧ valF g P d < 2 ^ d
  | 0, P => by simp [valF]
  | d + 1, P => by
    have := valF_range hg d (P + 1)
    have h2 := hg P
    rw [valF, Int.pow_succ]
    omega
theorem getD_u8 {l : List Int} (hl : ∀ x ∈ l, 0 ≤ x ∧ x ≤ 255) (j : Nat) : 0 ≤ l.getD j 0 ∧ l.getD j 0 ≤ 255 := by
  rw [List.getD_eq_getElem?_getD]
  by_cases h : j < l.length
  · rw [List.getElem?_eq_getElem h]; exact hl _ (List.getElem_mem h)
  · rw [List.getElem?_eq_none (by omega)]; simp
theorem shr_range {x : Int} {t : Nat} (h : 0 ≤ x ∧ x ≤ 255) : 0 ≤ x / 2 ^ t ∧ x / 2 ^ t ≤ 255 := by
  have hp : (0 : Int) < 2 ^ t := Int.pow_pos (by decide)
  have := Int.ediv_le_self (2 ^ t) h.1
  exact ⟨Int.ediv_nonneg h.1 (Int.le_of_lt hp), by omega⟩
theorem and_one_u8 (x : Int) (h0 : 0 ≤ x) (h1 : x ≤ 255) : bits .and .u8 x 1 = x % 2 := by
  obtain ⟨a, rfl⟩ := Int.eq_ofNat_of_zero_le h0
  have e := (bits_nat .u8 8 (by decide) wraps_u8 a 1 (by omega) (by decide)).1
  have e2 : ((1 : Nat) : Int) = 1 := rfl
  rw [e2] at e
  rw [e, Nat.and_one_is_mod]; omega
theorem valF_digits (g : Nat → Int) (X : Nat) : ∀ (d P c : Nat), (∀ t, t < d → g (P + t) = ((X / 2 ^ (c + t) % 2 : Nat) : Int)) → valF g P d = ((X / 2 ^ c % 2 ^ d : Nat) : Int)
  | 0, P, c, h => by simp [valF, Nat.mod_one]
  | d + 1, P, c, h => by
    have h0 := h 0 (by omega)
    rw [Nat.add_zero, Nat.add_zero] at h0
    have ih := valF_digits g X d (P + 1) (c + 1) (fun t ht => by
      have := h (t + 1) (by omega)
      rwa [show P + (t + 1) = P + 1 + t by omega, show c + (t + 1) = c + 1 + t by omega] at this)
    have e : X / 2 ^ c / 2 = X / 2 ^ (c + 1) := by rw [Nat.div_div_eq_div_mul, Nat.pow_succ]
    have e2 : X / 2 ^ c % 2 ^ (d + 1) = X / 2 ^ c % 2 + 2 * (X / 2 ^ (c + 1) % 2 ^ d) := by rw [Nat.pow_succ 2 d, Nat.mul_comm (2 ^ d) 2, Nat.mod_mul, e]
    rw [valF, ih, h0, e2]
    generalize X / 2 ^ c % 2 = u
    generalize X / 2 ^ (c + 1) % 2 ^ d = v
    omega
theorem bitsFrom_get (n : Int) : ∀ (d i c : Nat), c < d → (bitsFrom n i d).getD c 0 = n / 2 ^ (i + c) % 2
  | 0, _, c, h => absurd h (by omega)
  | d + 1, i, 0, h => by simp [bitsFrom]
  | d + 1, i, c + 1, h => by
    have := bitsFrom_get n d (i + 1) c (by omega)
    rw [show i + 1 + c = i + (c + 1) by omega] at this
    rw [bitsFrom, ← this]; simp
theorem allBits_get (W : Nat) : ∀ (l : List Int) (i c : Nat), i < l.length → c < W → (allBits W l).getD (i * W + c) 0 = l.getD i 0 / 2 ^ c % 2
  | [], i, c, h, _ => absurd h (by simp)
  | x :: l, 0, c, h, hc => by
    rw [allBits_cons, List.getD_eq_getElem?_getD, List.getElem?_append_left (by rw [bitsFrom_length]; omega), ← List.getD_eq_getElem?_getD, Nat.zero_mul, Nat.zero_add, bitsFrom_get x W 0 c hc, Nat.zero_add]; rfl
  | x :: l, i + 1, c, h, hc => by
    have := allBits_get W l i c (by simpa using h) hc
    rw [allBits_cons, List.getD_eq_getElem?_getD, List.getElem?_append_right (by rw [bitsFrom_length, Nat.add_mul]; omega), ← List.getD_eq_getElem?_getD, bitsFrom_length, show (i + 1) * W + c - W = i * W + c by rw [Nat.add_mul]; omega, this]; simp
theorem eight_bits {x0 x1 x2 x3 x4 x5 x6 x7 : Int} (h0 : x0 = 0 ∨ x0 = 1) (h1 : x1 = 0 ∨ x1 = 1) (h2 : x2 = 0 ∨ x2 = 1) (h3 : x3 = 0 ∨ x3 = 1) (h4 : x4 = 0 ∨ x4 = 1) (h5 : x5 = 0 ∨ x5 = 1) (h6 : x6 = 0 ∨ x6 = 1) (h7 : x7 = 0 ∨ x7 = 1) :
    (x0 + 2 * x1 + 4 * x2 + 8 * x3 + 16 * x4 + 32 * x5 + 64 * x6 + 128 * x7) / 1 % 2 = x0 ∧ (x0 + 2 * x1 + 4 * x2 + 8 * x3 + 16 * x4 + 32 * x5 + 64 * x6 + 128 * x7) / 2 % 2 = x1 ∧ (x0 + 2 * x1 + 4 * x2 + 8 * x3 + 16 * x4 + 32 * x5 + 64 * x6 + 128 * x7) / 4 % 2 = x2 ∧ (x0 + 2 * x1 + 4 * x2 + 8 * x3 + 16 * x4 + 32 * x5 + 64 * x6 + 128 * x7) / 8 % 2 = x3 ∧
    (x0 + 2 * x1 + 4 * x2 + 8 * x3 + 16 * x4 + 32 * x5 + 64 * x6 + 128 * x7) / 16 % 2 = x4 ∧ (x0 + 2 * x1 + 4 * x2 + 8 * x3 + 16 * x4 + 32 * x5 + 64 * x6 + 128 * x7) / 32 % 2 = x5 ∧ (x0 + 2 * x1 + 4 * x2 + 8 * x3 + 16 * x4 + 32 * x5 + 64 * x6 + 128 * x7) / 64 % 2 = x6 ∧ (x0 + 2 * x1 + 4 * x2 + 8 * x3 + 16 * x4 + 32 * x5 + 64 * x6 + 128 * x7) / 128 % 2 = x7 := by
  have a0 : 0 ≤ x0 ∧ x0 ≤ 1 := by omega
  have a1 : 0 ≤ x1 ∧ x1 ≤ 1 := by omega
  have a2 : 0 ≤ x2 ∧ x2 ≤ 1 := by omega
  have a3 : 0 ≤ x3 ∧ x3 ≤ 1 := by omega
  have a4 : 0 ≤ x4 ∧ x4 ≤ 1 := by omega
  have a5 : 0 ≤ x5 ∧ x5 ≤ 1 := by omega
  have a6 : 0 ≤ x6 ∧ x6 ≤ 1 := by omega
  have a7 : 0 ≤ x7 ∧ x7 ≤ 1 := by omega
  clear h0 h1 h2 h3 h4 h5 h6 h7
  refine ⟨by omega, by omega, by omega, by omega, by omega, by omega, by omega, by omega⟩
theorem byteAt_bit {B : List Int} (hB : ∀ b ∈ B, b = 0 ∨ b = 1) (j t : Nat) (ht : t < 8) : byteAt B j / 2 ^ t % 2 = B.getD (8 * j + t) 0 := by
  have h := eight_bits (getD_bit hB (8 * j)) (getD_bit hB (8 * j + 1)) (getD_bit hB (8 * j + 2)) (getD_bit hB (8 * j + 3)) (getD_bit hB (8 * j + 4)) (getD_bit hB (8 * j + 5)) (getD_bit hB (8 * j + 6)) (getD_bit hB (8 * j + 7))
  have : t = 0 ∨ t = 1 ∨ t = 2 ∨ t = 3 ∨ t = 4 ∨ t = 5 ∨ t = 6 ∨ t = 7 := by omega
  rcases this with rfl | rfl | rfl | rfl | rfl | rfl | rfl | rfl
  · exact h.1
  · exact h.2.1
  · exact h.2.2.1
  · exact h.2.2.2.1
  · exact h.2.2.2.2.1
  · exact h.2.2.2.2.2.1
  · exact h.2.2.2.2.2.2.1
  · exact h.2.2.2.2.2.2.2
theorem bt_packB {B : List Int} (hB : ∀ b ∈ B, b = 0 ∨ b = 1) (i : Nat) : bt (packB B) i = B.getD i 0 := by
  unfold bt packB
  rw [List.getD_eq_getElem?_getD, List.getElem?_map]
  by_cases h : i / 8 < (B.length + 7) / 8
  · rw [List.getElem?_range h]
    have := byteAt_bit hB (i / 8) (i % 8) (by omega)
    rw [show 8 * (i / 8) + i % 8 = i by omega] at this
    exact this
  · rw [List.getElem?_eq_none (by simp; omega), getD_out B (by omega)]
    simp
theorem rd_map (B : List Int) (n j : Nat) (h : j < n) : rd ((List.range n).map (byteAt B)) (j : Int) = byteAt B j := by
  unfold rd
  rw [List.getD_eq_getElem?_getD, List.getElem?_map, show ((j : Int)).toNat = j from rfl, List.getElem?_range h]; rfl
theorem w64n {n : Nat} (h : n ≤ 1000000000) : wrap64 (n : Int) = n := by unfold wrap64; omega
theorem w64s {n : Nat} (h : n + 1 ≤ 1000000000) : wrap64 ((n : Int) + 1) = ((n + 1 : Nat) : Int) := by unfold wrap64; omega
theorem and_one_i64 (y : Int) : bits .and .i64 y 1 = y % 2 := by
  show IntKind.i64.wrap ((BitVec.ofInt 64 y &&& BitVec.ofInt 64 1).toNat : Int) = _
  have e : (BitVec.ofInt 64 y &&& BitVec.ofInt 64 1).toNat = (y % 2).toNat := by
    rw [BitVec.toNat_and, BitVec.toNat_ofInt, BitVec.toNat_ofInt]
    have b : ((1 : Int) % ((2 ^ 64 : Nat) : Int)).toNat = 1 := by decide
    rw [b, Nat.and_one_is_mod]
    omega
  rw [e, IntKind.wrap_i64]
  omega
theorem or_low_high8 (i : Nat) (x y : Int) (hx0 : 0 ≤ x) (hx : x < 2 ^ i) (hy0 : 0 ≤ y) (hy : y % 2 ^ i = 0) (hy1 : y < 256) (hx1 : x < 256) :
    bits .or .u8 x y = x + y := by
  have := bits_join .u8 8 (by decide) wraps_u8 i y x hy0 hy (by omega) hx0 hx (by omega)
  obtain ⟨a, rfl⟩ := Int.eq_ofNat_of_zero_le hx0
  obtain ⟨b, rfl⟩ := Int.eq_ofNat_of_zero_le hy0
  have c := (bits_nat .u8 8 (by decide) wraps_u8 a b (by omega) (by omega)).2
  have d := (bits_nat .u8 8 (by decide) wraps_u8 b a (by omega) (by omega)).2
  rw [Nat.or_comm] at c
  have : bits .or .u8 (a : Int) (b : Int) = bits .or .u8 (b : Int) (a : Int) := c.trans d.symm
  omega
theorem pk_byte {B : List Int} (hB : ∀ b ∈ B, b = 0 ∨ b = 1) {b : Int} (hb : b = 0 ∨ b = 1) {L : Nat} (hL : B.length = L) (hl : L < 9223372036854775808) :
    bits .or .u8 (byteAt B (L / 8)) (shl .u8 (b % 256) (bits .and .i64 (L : Int) 7)) = byteAt B (L / 8) + b * 2 ^ (L % 8) := by
  have e7 : bits .and .i64 (L : Int) 7 = ((L % 8 : Nat) : Int) := and_low_i64 L 7 3 (by decide) (by decide) hl
  rw [e7]
  have hb1 := byteAt_range hB (L / 8)
  have hb2 := byteAt_last hB
  rw [hL] at hb2
  have hr : L % 8 < 8 := by omega
  have hs : shl .u8 (b % 256) ((L % 8 : Nat) : Int) = b * 2 ^ (L % 8) := by
    unfold shl
    rw [show min (((L % 8 : Nat) : Int)).toNat IntKind.u8.bits = L % 8 from by show min _ 8 = _; omega, IntKind.wrap_u8]
    have hr8 : L % 8 = 0 ∨ L % 8 = 1 ∨ L % 8 = 2 ∨ L % 8 = 3 ∨ L % 8 = 4 ∨ L % 8 = 5 ∨ L % 8 = 6 ∨ L % 8 = 7 := by omega
    rcases hb with rfl | rfl <;> rcases hr8 with h | h | h | h | h | h | h | h <;> rw [h] <;> decide
  rw [hs]
  have hp : (0 : Int) < 2 ^ (L % 8) := Int.pow_pos (by decide)
  have hp2 : (2 : Int) ^ (L % 8) ≤ 128 := by
    have hr8 : L % 8 = 0 ∨ L % 8 = 1 ∨ L % 8 = 2 ∨ L % 8 = 3 ∨ L % 8 = 4 ∨ L % 8 = 5 ∨ L % 8 = 6 ∨ L % 8 = 7 := by omega
    rcases hr8 with h | h | h | h | h | h | h | h <;> rw [h] <;> decide
  refine or_low_high8 (L % 8) _ _ hb1.1 hb2 (by rcases hb with rfl | rfl <;> omega) (Int.mul_emod_left _ _) (by rcases hb with rfl | rfl <;> omega) (by omega)
theorem pk_l1 : ∀ (d : Nat) (k : Nat) (W : Nat) (n c : Nat) (x : Int) (B ys : List Int) (m i : Int), (∀ b ∈ B, b = 0 ∨ b = 1) → c + d = W → W ≤ 64 → B.length + d ≤ 1000000000 → (B.length + d + 7) / 8 ≤ n →
    delta_Pack.l1 (k + d + 1) (W : Int) ((List.range n).map (byteAt B)) (B.length : Int) x ys m i (W : Int) (c : Int) = delta_Pack.l0 k (W : Int) ((List.range n).map (byteAt (B ++ bitsFrom x c d))) ((B.length + d : Nat) : Int) ys m (wrap64 (i + 1))
  | 0, k, W, n, c, x, B, ys, m, i, hB, hc, hW, hl, hn => by
    rw [show k + 0 + 1 = k + 1 by omega, delta_Pack.l1, if_neg (by omega)]; simp [bitsFrom]
  | d + 1, k, W, n, c, x, B, ys, m, i, hB, hc, hW, hl, hn => by
    rw [show k + (d + 1) + 1 = (k + d + 1) + 1 by omega, delta_Pack.l1, if_pos (by omega), if_pos (by omega), if_pos (by rw [List.length_map, List.length_range]; omega), if_pos (by omega)]
    have e7 : bits .and .i64 (B.length : Int) 7 = ((B.length % 8 : Nat) : Int) := and_low_i64 B.length 7 3 (by decide) (by decide) (by omega)
    rw [if_pos (by rw [e7]; omega)]
    have hsh : shr .i64 x (c : Int) = x / 2 ^ c := by
      unfold shr
      rw [show min ((c : Int)).toNat IntKind.i64.bits = c from by show min _ 64 = _; omega]
    rw [hsh, and_one_i64]
    have hb : x / 2 ^ c % 2 = 0 ∨ x / 2 ^ c % 2 = 1 := by omega
    have e8 : (B.length : Int) / 8 = ((B.length / 8 : Nat) : Int) := by omega
    rw [e8, rd_map B n _ (by omega), show ((((B.length / 8 : Nat)) : Int)).toNat = B.length / 8 from rfl, pk_byte hB hb rfl (by omega), map_set B _ n (by omega)]
    have hB' : ∀ b ∈ B ++ [x / 2 ^ c % 2], b = 0 ∨ b = 1 := by
      intro b hb'
      rcases List.mem_append.1 hb' with h | h
      · exact hB b h
      · rw [List.mem_singleton.1 h]; exact hb
    have ih := pk_l1 d k W n (c + 1) x (B ++ [x / 2 ^ c % 2]) ys m i hB' (by omega) hW (by simp; omega) (by simp; omega)
    rw [List.append_assoc, show [x / 2 ^ c % 2] ++ bitsFrom x (c + 1) d = bitsFrom x c (d + 1) from rfl, List.length_append, List.length_singleton] at ih
    rw [w64s (by omega), w64s (by omega), ih, show B.length + 1 + d = B.length + (d + 1) by omega]
theorem rd_snoc {ys0 ys1 : List Int} {x : Int} : rd (ys0 ++ x :: ys1) (ys0.length : Int) = x := by
  unfold rd
  rw [List.getD_eq_getElem?_getD, show ((ys0.length : Int)).toNat = ys0.length from rfl, List.getElem?_append_right (Nat.le_refl _)]; simp
theorem pk_l0 : ∀ (ys1 : List Int) (k : Nat) (W : Nat) (n : Nat) (ys ys0 : List Int), ys = ys0 ++ ys1 → W ≤ 64 → ys.length ≤ 1000000 → (ys.length * W + 7) / 8 ≤ n → ys1.length * (W + 2) + 1 ≤ k →
    delta_Pack.l0 k (W : Int) ((List.range n).map (byteAt (allBits W ys0))) ((ys0.length * W : Nat) : Int) ys (ys.length : Int) (ys0.length : Int) = some ((List.range n).map (byteAt (allBits W ys)))
  | [], k, W, n, ys, ys0, he, hW, hl, hn, hk => by
    obtain ⟨k, rfl⟩ : ∃ j, k = j + 1 := ⟨k - 1, by omega⟩
    rw [List.append_nil] at he
    subst he
    rw [delta_Pack.l0, if_neg (by omega)]
  | x :: ys1, k, W, n, ys, ys0, he, hW, hl, hn, hk => by
    have hll : ys.length = ys0.length + (ys1.length + 1) := by rw [he]; simp
    have hmw : ys0.length * W + W ≤ ys.length * W := by
      have := Nat.mul_le_mul_right W (show ys0.length + 1 ≤ ys.length by omega)
      rw [Nat.add_mul] at this; omega
    have hmb : ys.length * W ≤ 1000000 * 64 := Nat.mul_le_mul hl hW
    have hkk : (x :: ys1).length * (W + 2) = ys1.length * (W + 2) + (W + 2) := by rw [List.length_cons, Nat.add_mul]; omega
    rw [hkk] at hk
    obtain ⟨k', rfl⟩ : ∃ j, k = (j + W + 1) + 1 := ⟨k - W - 2, by omega⟩
    have hrd : rd ys (ys0.length : Int) = x := by rw [he]; exact rd_snoc
    rw [delta_Pack.l0, if_pos (by omega), if_pos (by omega), if_pos (by omega), hrd]
    have hq := pk_l1 W k' W n 0 x (allBits W ys0) ys (ys.length : Int) (ys0.length : Int) (allBits_range W ys0) (by omega) hW (by rw [allBits_length]; omega) (by rw [allBits_length]; omega)
    rw [allBits_length] at hq
    have z : ((0 : Nat) : Int) = 0 := rfl
    rw [z] at hq
    rw [hq, w64 (by omega) (by omega)]
    have e : allBits W ys0 ++ bitsFrom x 0 W = allBits W (ys0 ++ [x]) := by simp [allBits]
    have ih := pk_l0 ys1 k' W n ys (ys0 ++ [x]) (by rw [he]; simp) hW hl hn (by omega)
    rw [List.length_append, List.length_singleton, Nat.add_mul, Nat.one_mul] at ih
    rw [e, show (ys0.length : Int) + 1 = ((ys0.length + 1 : Nat) : Int) by omega]
    exact ih
theorem pack {k : Nat} {W : Nat} {ys : List Int} (hW : W ≤ 64) (hl : ys.length ≤ 1000000) (hk : ys.length * (W + 2) + 2 ≤ k) : delta_Pack.f k (W : Int) ys = some (packB (allBits W ys)) := by
  obtain ⟨k, rfl⟩ : ∃ j, k = j + 1 := ⟨k - 1, by omega⟩
  unfold delta_Pack.f
  have hmb : ys.length * W ≤ 1000000 * 64 := Nat.mul_le_mul hl hW
  have hm : ((ys.length * W : Nat) : Int) = (W : Int) * (ys.length : Int) := by rw [Int.natCast_mul, Int.mul_comm]
  rw [if_neg (by omega), show decide ((W : Int) > 64) = false from decide_eq_false (by omega), delta_Pack.j0, if_neg (by decide), ← hm, w64n (by omega : ys.length * W ≤ 1000000000), w64 (by omega) (by omega), if_pos (by omega), if_pos (by omega)]
  have := pk_l0 ys k W ((((ys.length * W : Nat) : Int) + 7) / 8).toNat ys [] rfl hW hl (by omega) (by omega)
  have e : allBits W [] = [] := rfl
  rw [e, packB_zero] at this
  have z : (([] : List Int).length : Int) = 0 := rfl
  rw [z, List.length_nil, Nat.zero_mul] at this
  refine Eq.trans (show _ = _ from this) ?_
  congr 1
  unfold packB
  rw [allBits_length]
  congr 2
theorem ofInt_wrap64 (x : Int) : BitVec.ofInt 64 (wrap64 x) = BitVec.ofInt 64 x := by
  apply BitVec.eq_of_toNat_eq
  rw [BitVec.toNat_ofInt, BitVec.toNat_ofInt]
  unfold wrap64
  omega
theorem or_i64 (x y : Int) : bits .or .i64 (wrap64 x) (wrap64 y) = wrap64 (bits .or .u64 x y) := by
  show IntKind.i64.wrap ((BitVec.ofInt 64 (wrap64 x) ||| BitVec.ofInt 64 (wrap64 y)).toNat : Int) = wrap64 (IntKind.u64.wrap ((BitVec.ofInt 64 x ||| BitVec.ofInt 64 y).toNat : Int))
  rw [ofInt_wrap64, ofInt_wrap64, u64w, IntKind.wrap_i64]
  have := (BitVec.ofInt 64 x ||| BitVec.ofInt 64 y).isLt
  unfold wrap64
  omega
theorem pow_le64 {d : Nat} (h : d ≤ 64) : (2 : Int) ^ d ≤ 18446744073709551616 := by
  have := Nat.pow_le_pow_right (n := 2) (by decide) h
  have e : ∀ n : Nat, ((2 ^ n : Nat) : Int) = (2 : Int) ^ n := fun n => by simp
  rw [← e]
  exact Int.ofNat_le.2 this
theorem pkBit_eq {bs : List Int} (hu : ∀ x ∈ bs, 0 ≤ x ∧ x ≤ 255) (j : Nat) : pkBit bs j = bt bs j := by
  have := shr_range (t := j % 8) (getD_u8 hu (j / 8))
  unfold pkBit bt
  rw [and_one_u8 _ this.1 this.2]
  exact w64 (by omega) (by omega)
theorem pkF_eq {bs : List Int} (hu : ∀ x ∈ bs, 0 ≤ x ∧ x ≤ 255) (s : Nat) : ∀ k, k ≤ 64 → pkF bs s k = wrap64 (valF (bt bs) s k)
  | 0, _ => by simp [pkF, valF, wrap64]
  | k + 1, h => by
    have hr := valF_range (bt_range bs) k s
    have hb := bt_range bs (s + k)
    have hp : (0 : Int) < 2 ^ k := Int.pow_pos (by decide)
    have hp2 : (2 : Int) ^ k * 2 ≤ 18446744073709551616 := by rw [← Int.pow_succ]; exact pow_le64 h
    rw [pkF, pkF_eq hu s k (by omega), pkBit_eq hu, or_i64, valF_snoc]
    congr 1
    refine or_low_high k _ _ hr.1 hr.2 ?_ (Int.mul_emod_left _ _) ?_ (by omega)
    · rcases hb with e | e <;> rw [e] <;> omega
    · rcases hb with e | e <;> rw [e] <;> omega
theorem digit (x : Int) (c : Nat) (hc : c < 64) : x / 2 ^ c % 2 = (((x % 18446744073709551616).toNat / 2 ^ c % 2 : Nat) : Int) := by
  have hp : (0 : Int) < 2 ^ c := Int.pow_pos (by decide)
  have e64 : (18446744073709551616 : Int) = 2 ^ c * (2 * 2 ^ (63 - c)) := by
    rw [Int.mul_left_comm, ← Int.pow_add, show c + (63 - c) = 63 by omega]; decide
  obtain ⟨m, hm⟩ : ∃ m, m = x % 18446744073709551616 := ⟨_, rfl⟩
  obtain ⟨q, hq⟩ : ∃ q, q = x / 18446744073709551616 := ⟨_, rfl⟩
  have hx : x = m + 2 ^ c * (2 * 2 ^ (63 - c) * q) := by
    rw [← Int.mul_assoc, ← e64, hm, hq]; omega
  have hm0 : 0 ≤ m := by omega
  rw [← hm]
  conv => lhs; rw [hx, Int.add_mul_ediv_left _ _ (by omega)]
  obtain ⟨mn, rfl⟩ := Int.eq_ofNat_of_zero_le hm0
  have e1 : ((mn : Int)).toNat = mn := rfl
  have e2 : (mn : Int) / 2 ^ c = ((mn / 2 ^ c : Nat) : Int) := by simp
  rw [e1, e2, Int.mul_assoc]
  omega
theorem allBits_val {W : Nat} (hW : W ≤ 64) (xs : List Int) (i : Nat) (h : i < xs.length) : valF (bt (packB (allBits W xs))) (i * W) W = (((xs.getD i 0 % 18446744073709551616).toNat % 2 ^ W : Nat) : Int) := by
  have := valF_digits (bt (packB (allBits W xs))) (xs.getD i 0 % 18446744073709551616).toNat W (i * W) 0 (fun t ht => by
    rw [bt_packB (allBits_range W xs), allBits_get W xs i t h ht, Nat.zero_add]
    exact digit _ t (by omega))
  rw [this, Nat.pow_zero, Nat.div_one]
def fitsW (W : Nat) (x : Int) : Prop := (x % 18446744073709551616).toNat < 2 ^ W ∧ -9223372036854775808 ≤ x ∧ x ≤ 9223372036854775807
theorem fits_back {W : Nat} {x : Int} (h : fitsW W x) : wrap64 (((x % 18446744073709551616).toNat % 2 ^ W : Nat) : Int) = x := by
  rw [Nat.mod_eq_of_lt h.1]
  have := h.2
  unfold wrap64
  omega
theorem packed_back {W : Nat} {xs : List Int} (hW : W ≤ 64) (hl : xs.length = 32) (hx : ∀ x ∈ xs, fitsW W x) (tl : List Int) : packedS W (packB (allBits W xs) ++ tl) = .ok (xs, tl) := by
  have hlen : (packB (allBits W xs)).length = 4 * W := by rw [packB_length, allBits_length, hl]; omega
  unfold packedS
  rw [if_pos (by rw [List.length_append, hlen]; omega), List.take_append_of_le_length (by omega), List.take_of_length_le (by omega), List.drop_append_of_le_length (by omega), List.drop_of_length_le (by omega), List.nil_append]
  have hu := packB_range (allBits_range W xs)
  have : packedV (packB (allBits W xs)) W = xs := by
    apply List.ext_getElem
    · rw [packedV_length, hl]
    · intro i h1 h2
      simp only [packedV, List.getElem_map, List.getElem_range]
      rw [pkF_eq hu _ _ hW, allBits_val hW xs i h2, List.getD_eq_getElem?_getD, List.getElem?_eq_getElem h2]
      exact fits_back (hx _ (List.getElem_mem h2))
  rw [this]
end Go.Proofs.Ytbncfhmfohpfbaa.D13
end

section
namespace Go.Proofs.Ytbncfhmfohpfbaa.D13
set_option linter.unusedVariables false
set_option linter.unusedSimpArgs false
open Go.RowKit Go.Proofs.Ytbncfhmfohpfbaa.X Go.Proofs.YtbncfhmfohpfbaaW.PrintWords Go.Proofs.YtbncfhmfohpfbaaW.PrintLast Go.Proofs.YtbncfhmfohpfbaaW.PrintMore Go.Proofs.Ytbncfhmfohpfbaa.Bx Go.Proofs.Ytbncfhmfohpfbaa.Nx Go.Proofs.Ytbncfhmfohpfbaa.Px
def inI (x : Int) : Prop := -9223372036854775808 ≤ x ∧ x ≤ 9223372036854775807
theorem wrap_in (x : Int) : inI (wrap64 x) := by unfold inI wrap64; omega
theorem bitLenAux_lt : ∀ (f x : Nat), x < 2 ^ f → x < 2 ^ Lib.bitLenAux f x
  | 0, x, h => by simpa [Lib.bitLenAux] using h
  | f + 1, x, h => by
    unfold Lib.bitLenAux
    split
    · simp; omega
    · have := bitLenAux_lt f (x / 2) (by rw [Nat.pow_succ] at h; omega)
      rw [Nat.add_comm, Nat.pow_succ]
      omega
theorem bitLenAux_top : ∀ (f x : Nat), Lib.bitLenAux f x ≤ f
  | 0, x => by simp [Lib.bitLenAux]
  | f + 1, x => by
    unfold Lib.bitLenAux
    split
    · omega
    · have := bitLenAux_top f (x / 2); omega
theorem W64_range (x : Int) : 0 ≤ W64 x ∧ W64 x ≤ 64 := by
  unfold W64
  have := bitLenAux_top 64 (IntKind.u64.wrap x).toNat
  unfold Lib.bitLen
  omega
theorem W64_lt (x : Int) : (x % 18446744073709551616).toNat < 2 ^ (W64 x).toNat := by
  unfold W64
  rw [u64w]
  exact bitLenAux_lt 64 _ (by omega)
theorem topW_acc (least : Int) : ∀ (xs : List Int) (m : Int), m ≤ xs.foldl (fun m x => max m (W64 (difW least x))) m ∧ (∀ x ∈ xs, W64 (difW least x) ≤ xs.foldl (fun m x => max m (W64 (difW least x))) m) ∧ (0 ≤ m → m ≤ 64 → xs.foldl (fun m x => max m (W64 (difW least x))) m ≤ 64)
  | [], m => ⟨by simp, by simp, fun _ h => by simpa using h⟩
  | x :: xs, m => by
    have ih := topW_acc least xs (max m (W64 (difW least x)))
    have hr := W64_range (difW least x)
    rw [List.foldl_cons]
    refine ⟨by omega, fun y hy => ?_, fun h0 h1 => ih.2.2 (by omega) (by omega)⟩
    rcases List.mem_cons.1 hy with rfl | hy
    · omega
    · exact ih.2.1 y hy
theorem topW_range (least : Int) (xs : List Int) : 0 ≤ topW least xs ∧ topW least xs ≤ 64 := ⟨(topW_acc least xs 0).1, (topW_acc least xs 0).2.2 (by omega) (by omega)⟩
theorem row_fits (least : Int) (xs : List Int) : ∀ x ∈ rowW least xs, fitsW (topW least xs).toNat x := by
  intro x hx
  have hr := topW_range least xs
  unfold rowW at hx
  rcases List.mem_append.1 hx with h | h
  · obtain ⟨y, hy, rfl⟩ := List.mem_map.1 h
    have h1 := (topW_acc least xs 0).2.1 y hy
    have h2 := W64_lt (difW least y)
    have h3 := W64_range (difW least y)
    refine ⟨Nat.lt_of_lt_of_le h2 (Nat.pow_le_pow_right (by decide) ?_), wrap_in _⟩
    have h4 : W64 (difW least y) ≤ topW least xs := h1
    omega
  · obtain ⟨_, rfl⟩ := List.mem_replicate.1 h
    exact ⟨by simpa using Nat.two_pow_pos _, by decide, by decide⟩
def pakB (least : Int) (d : List Int) (i : Nat) : List Int := packB (allBits (topW least (cutW d i)).toNat (rowW least (cutW d i)))
def wsR (least : Int) (d : List Int) : Nat → Nat → List Int
  | 0, _ => []
  | m + 1, i => topW least (cutW d i) :: wsR least d m (i + 1)
def psR (least : Int) (d : List Int) : Nat → Nat → List Int
  | 0, _ => []
  | m + 1, i => pakB least d i ++ psR least d m (i + 1)
theorem wsR_length (least : Int) (d : List Int) : ∀ m i, (wsR least d m i).length = m
  | 0, _ => rfl
  | m + 1, i => by rw [wsR, List.length_cons, wsR_length least d m]
theorem cutW_length (d : List Int) (i : Nat) : (cutW d i).length ≤ 32 := by unfold cutW; rw [List.length_take]; omega
theorem pakB_length (least : Int) (d : List Int) (i : Nat) : (pakB least d i).length = 4 * (topW least (cutW d i)).toNat := by
  unfold pakB
  rw [packB_length, allBits_length, rowW_length least _ (cutW_length d i)]
  omega
theorem psR_length (least : Int) (d : List Int) : ∀ m i, (psR least d m i).length ≤ 256 * m
  | 0, _ => by simp [psR]
  | m + 1, i => by
    have := psR_length least d m (i + 1)
    have := topW_range least (cutW d i)
    rw [psR, List.length_append, pakB_length]
    omega
theorem laidP_eq {k : Nat} (hk : 3000 ≤ k) (least : Int) (d : List Int) : ∀ (m n i : Nat) (ws ps : List Int), (d.length + 31) / 32 = i + m → m < n → ps.length + 256 * m ≤ 100000 → laidP k least d n i ws ps = some (ws ++ wsR least d m i, ps ++ psR least d m i)
  | 0, n, i, ws, ps, h, hn, hp => by
    obtain ⟨n, rfl⟩ : ∃ j, n = j + 1 := ⟨n - 1, by omega⟩
    rw [laidP, if_neg (by omega)]
    simp [wsR, psR]
  | m + 1, n, i, ws, ps, h, hn, hp => by
    obtain ⟨n, rfl⟩ : ∃ j, n = j + 1 := ⟨n - 1, by omega⟩
    have hr := topW_range least (cutW d i)
    have hl := rowW_length least (cutW d i) (cutW_length d i)
    have hpk := pack (k := k) (W := (topW least (cutW d i)).toNat) (ys := rowW least (cutW d i)) (by omega) (by omega) (by
      rw [hl]
      have : 32 * ((topW least (cutW d i)).toNat + 2) ≤ 32 * 66 := Nat.mul_le_mul_left _ (by omega)
      omega)
    rw [show (((topW least (cutW d i)).toNat : Nat) : Int) = topW least (cutW d i) by omega] at hpk
    have hpl := pakB_length least d i
    unfold pakB at hpl
    rw [laidP, if_pos (by omega), hpk, Option.bind_some, if_pos (by rw [List.length_append, hpl]; omega), laidP_eq hk least d m n (i + 1) _ _ (by omega) (by omega) (by rw [List.length_append, hpl]; omega)]
    rw [wsR, psR, show topW least (cutW d i) % 256 = topW least (cutW d i) by omega]
    simp [pakB]
def npW (d : List Int) : Nat := (d.length + 31) / 32
def minD : List Int → Int
  | [] => 0
  | x :: r => r.foldl min x
def blkB (d : List Int) : List Int := vb (zz (minD d)).toNat ++ (wsR (minD d) d (npW d) 0 ++ List.replicate (4 - npW d) 0) ++ psR (minD d) d (npW d) 0
theorem foldl_min_in : ∀ (r : List Int) (x : Int), inI x → (∀ y ∈ r, inI y) → inI (r.foldl min x)
  | [], x, h, _ => h
  | y :: r, x, h, hr => by
    rw [List.foldl_cons]
    refine foldl_min_in r _ ?_ (fun z hz => hr z (by simp [hz]))
    have := hr y (by simp)
    unfold inI at *
    omega
theorem minD_in {d : List Int} (h : ∀ x ∈ d, inI x) : inI (minD d) := by
  cases d with
  | nil => exact ⟨by decide, by decide⟩
  | cons x r => exact foldl_min_in r x (h x (by simp)) (fun y hy => h y (by simp [hy]))
theorem blkB_length {d : List Int} (h : ∀ x ∈ d, inI x) (hn : d.length ≤ 128) : (blkB d).length ≤ 1040 := by
  have h1 := minD_in h
  have hz := zz_range h1.1 h1.2
  have := vb_length64 (n := (zz (minD d)).toNat) (by omega)
  have := psR_length (minD d) d (npW d) 0
  unfold blkB
  rw [List.length_append, List.length_append, List.length_append, wsR_length, List.length_replicate]
  have : npW d ≤ 4 := by unfold npW; omega
  omega
theorem laid_eq {k : Nat} (hk : 3000 ≤ k) {out d : List Int} (h : ∀ x ∈ d, inI x) (h0 : 0 < d.length) (hn : d.length ≤ 128) (ho : out.length ≤ 99999990) : laidF k out d = some (out ++ blkB d) := by
  have hm : slices_Min_int64_int64.f d = some (minD d) := by
    cases d with
    | nil => simp at h0
    | cons x r => rfl
  have h1 := minD_in h
  have hz := zz_range h1.1 h1.2
  have hv := vb_length64 (n := (zz (minD d)).toNat) (by omega)
  have h4 : npW d ≤ 4 := by unfold npW; omega
  unfold laidF
  rw [hm, Option.bind_some, signed (by omega) (by omega) h1.1 h1.2, Option.bind_some, if_pos (by rw [List.length_append]; omega), laidP_eq hk (minD d) d (npW d) 5 0 [] [] (by unfold npW; omega) (by omega) (by simp; omega), Option.bind_some]
  simp only [List.nil_append, wsR_length, blkB, List.append_assoc]
theorem widS_back (n fr : Int) (least : Int) (d : List Int) : ∀ (m z i : Nat) (tl : List Int), (∀ j, j < m → fr + 32 * ((i + j : Nat) : Int) < n) → widS n fr (m + z) i (wsR least d m i ++ List.replicate z 0 ++ tl) = .ok (wsR least d m i ++ List.replicate z 0, tl)
  | 0, 0, i, tl, h => rfl
  | 0, z + 1, i, tl, h => by
    have ih := widS_back n fr least d 0 z (i + 1) tl (fun j hj => absurd hj (by omega))
    rw [show 0 + (z + 1) = (0 + z) + 1 by omega, widS]
    simp only [wsR, List.nil_append, List.replicate_succ, List.cons_append] at ih ⊢
    simp only [byteS, andS_ok]
    rw [if_pos ⟨by omega, .inl (by trivial)⟩, ih, andS_ok]
  | m + 1, z, i, tl, h => by
    have hr := topW_range least (cutW d i)
    have ih := widS_back n fr least d m z (i + 1) tl (fun j hj => by have := h (j + 1) (by omega); rwa [show i + 1 + j = i + (j + 1) by omega])
    rw [show m + 1 + z = (m + z) + 1 by omega, widS]
    simp only [wsR, List.cons_append]
    simp only [byteS, andS_ok]
    have h0 := h 0 (by omega)
    rw [if_pos ⟨hr.2, .inr h0⟩, ih, andS_ok]
def appD (l ds : List Int) : List Int := ds.foldl (fun l d => l ++ [wrap64 (rd l ((l.length : Int) - 1) + d)]) l
theorem appD_append (l a b : List Int) : appD l (a ++ b) = appD (appD l a) b := by unfold appD; rw [List.foldl_append]
theorem appD_length : ∀ (ds l : List Int), (appD l ds).length = l.length + ds.length
  | [], l => by simp [appD]
  | d :: ds, l => by
    have := appD_length ds (l ++ [wrap64 (rd l ((l.length : Int) - 1) + d)])
    unfold appD at *
    rw [List.foldl_cons, this]
    simp; omega
theorem addS_row (n least : Int) : ∀ (cut : List Int) (m : Nat) (l : List Int), (∀ x ∈ cut, inI x) → (l.length : Int) + cut.length ≤ n → (m = 0 ∨ (l.length : Int) + cut.length = n) → addS n least (cut.map (difW least) ++ List.replicate m 0) l = appD l cut
  | [], 0, l, _, _, _ => rfl
  | [], m + 1, l, _, h, hm => by
    have : (l.length : Int) = n := by rcases hm with h | h; omega; simpa using h
    simp only [List.map_nil, List.nil_append, List.replicate_succ, addS, if_pos this]; rfl
  | d :: cut, m, l, hx, h, hm => by
    have hd := hx d (by simp)
    rw [List.length_cons] at h hm
    rw [List.map_cons, List.cons_append, addS, if_neg (by omega)]
    have e : wrap64 (least + difW least d) = d := by
      have := hd.1; have := hd.2
      unfold difW wrap64; omega
    rw [e, addS_row n least cut m _ (fun x hx' => hx x (by simp [hx'])) (by simp; omega) (by simp; omega)]
    rfl
theorem cutW_drop (d : List Int) (i : Nat) : d.drop (32 * i) = cutW d i ++ d.drop (32 * (i + 1)) := by
  unfold cutW
  rw [show 32 * (i + 1) = 32 * i + 32 by omega, ← List.drop_drop, List.take_append_drop]
theorem cutW_len (d : List Int) (i : Nat) : (cutW d i).length = min 32 (d.length - 32 * i) := by unfold cutW; rw [List.length_take, List.length_drop]
theorem partsS_back (n fr least : Int) (d : List Int) (hx : ∀ x ∈ d, inI x) (hn : d.length ≤ 128) : ∀ (m i : Nat) (l tl : List Int), npW d = i + m → (l.length : Int) + (d.length - 32 * i : Nat) ≤ n → fr + d.length ≤ n → (d.length = 128 ∨ fr + d.length = n) → (l.length : Int) + (d.length - 32 * i : Nat) = fr + d.length →
    partsS n fr least (wsR least d m i ++ List.replicate (4 - npW d) 0) i l (psR least d m i ++ tl) = .ok (appD l (d.drop (32 * i)), tl)
  | 0, i, l, tl, hm, h1, h2, h3, h4 => by
    have hd : d.drop (32 * i) = [] := List.drop_of_length_le (by unfold npW at hm; omega)
    rw [hd]
    simp only [wsR, psR, List.nil_append]
    by_cases c : 4 - npW d = 0
    · rw [c]; rfl
    · obtain ⟨z, hz⟩ : ∃ z, 4 - npW d = z + 1 := ⟨4 - npW d - 1, by omega⟩
      rw [hz, List.replicate_succ, partsS, if_pos (by unfold npW at hm hz; omega)]
      rfl
  | m + 1, i, l, tl, hm, h1, h2, h3, h4 => by
    have hr := topW_range least (cutW d i)
    have hcl := cutW_len d i
    have hcx : ∀ x ∈ cutW d i, inI x := fun x h => hx x (List.mem_of_mem_drop (List.mem_of_mem_take h))
    simp only [wsR, psR, List.cons_append, List.append_assoc]
    rw [partsS, if_neg (by unfold npW at hm; omega)]
    have hb := packed_back (W := (topW least (cutW d i)).toNat) (xs := rowW least (cutW d i)) (by omega) (rowW_length least _ (cutW_length d i)) (row_fits least _) (psR least d m (i + 1) ++ tl)
    unfold pakB
    rw [hb, andS_ok]
    have hrow : addS n least (rowW least (cutW d i)) l = appD l (cutW d i) := by
      unfold rowW
      refine addS_row n least _ _ l hcx (by omega) ?_
      unfold npW at hm
      omega
    have hal := appD_length (cutW d i) l
    rw [hrow, partsS_back n fr least d hx hn m (i + 1) (appD l (cutW d i)) tl (by omega) (by unfold npW at hm; omega) h2 h3 (by unfold npW at hm; omega), ← appD_append, ← cutW_drop]
end Go.Proofs.Ytbncfhmfohpfbaa.D13
end

section
namespace Go.Proofs.Ytbncfhmfohpfbaa.D13
set_option linter.unusedVariables false
set_option linter.unusedSimpArgs false
open Go.RowKit Go.Proofs.Ytbncfhmfohpfbaa.X Go.Proofs.YtbncfhmfohpfbaaW.PrintWords Go.Proofs.YtbncfhmfohpfbaaW.PrintLast Go.Proofs.YtbncfhmfohpfbaaW.PrintMore Go.Proofs.Ytbncfhmfohpfbaa.Bx Go.Proofs.Ytbncfhmfohpfbaa.Nx Go.Proofs.Ytbncfhmfohpfbaa.Px
theorem rd_lt (L : List Int) (i : Nat) (h : i < L.length) : rd L (i : Int) = L[i] := by
  unfold rd
  rw [List.getD_eq_getElem?_getD, show ((i : Int)).toNat = i from rfl, List.getElem?_eq_getElem h]; rfl
theorem rd_take (L : List Int) (a i : Nat) (h : i < a) (ha : a ≤ L.length) : rd (L.take a) (i : Int) = rd L (i : Int) := by
  rw [rd_lt _ i (by rw [List.length_take]; omega), rd_lt L i (by omega), List.getElem_take]
theorem take_snoc (L : List Int) (a : Nat) (h : a < L.length) : L.take (a + 1) = L.take a ++ [rd L (a : Int)] := by
  rw [List.take_succ_eq_append_getElem h, rd_lt L a h]
theorem difs_back (L : List Int) (hx : ∀ x ∈ L, inI x) (a : Nat) (ha : 1 ≤ a) : ∀ m, a + m ≤ L.length → appD (L.take a) (difD L a m) = L.take (a + m)
  | 0, h => rfl
  | m + 1, h => by
    have ih := difs_back L hx a ha m (by omega)
    rw [difD_succ, appD_append, ih]
    show L.take (a + m) ++ [wrap64 (rd (L.take (a + m)) (((L.take (a + m)).length : Int) - 1) + wrap64 (rd L ((a : Int) + (m : Int)) - rd L ((a : Int) + (m : Int) - 1)))] = _
    have hl : (L.take (a + m)).length = a + m := by rw [List.length_take]; omega
    have e1 : (((L.take (a + m)).length : Int) - 1) = ((a + m - 1 : Nat) : Int) := by rw [hl]; omega
    have e2 : (a : Int) + (m : Int) = ((a + m : Nat) : Int) := by omega
    have e3 : (a : Int) + (m : Int) - 1 = ((a + m - 1 : Nat) : Int) := by omega
    rw [e3, e2, e1, rd_take L _ _ (by omega) (by omega), show a + (m + 1) = (a + m) + 1 by omega, take_snoc L (a + m) (by omega)]
    have hi := hx _ (List.getElem_mem (show a + m < L.length by omega))
    rw [← rd_lt L (a + m) (by omega)] at hi
    generalize rd L ((a + m : Nat) : Int) = u at *
    generalize rd L ((a + m - 1 : Nat) : Int) = v
    congr 2
    obtain ⟨h1, h2⟩ := hi
    unfold wrap64
    omega
theorem difD_in (L : List Int) (a : Int) (m : Nat) : ∀ x ∈ difD L a m, inI x := by
  intro x hx
  obtain ⟨j, _, rfl⟩ := List.mem_map.1 hx
  exact wrap_in _
theorem loop_back (L : List Int) (hx : ∀ x ∈ L, inI x) : ∀ (dd kk fr : Nat) (tl : List Int), 1 ≤ fr → (L.length : Int) - fr < 128 * dd → (L.length : Int) - fr < 128 * kk →
    loopS (L.length : Int) kk (fr : Int) (L.take fr) ((blksD L dd fr).flatMap blkB ++ tl) = .ok (L, tl)
  | 0, kk, fr, tl, h1, h2, h3 => by
    have hL : L.take fr = L := List.take_of_length_le (by omega)
    rw [hL]
    cases kk with
    | zero => rfl
    | succ kk => rw [loopS, if_neg (by omega)]; rfl
  | dd + 1, kk, fr, tl, h1, h2, h3 => by
    by_cases c : (fr : Int) < (L.length : Int)
    · obtain ⟨kk, rfl⟩ : ∃ j, kk = j + 1 := ⟨kk - 1, by omega⟩
      obtain ⟨m, hm⟩ : ∃ m, m = (min (L.length : Int) ((fr : Int) + 128) - (fr : Int)).toNat := ⟨_, rfl⟩
      obtain ⟨T, hT⟩ : ∃ T, T = (blksD L dd (fr + 128)).flatMap blkB ++ tl := ⟨_, rfl⟩
      rw [blksD, if_pos c, ← hm, List.flatMap_cons, loopS, if_pos c, List.append_assoc, ← hT]
      have hd := difD_in L fr m
      have hdl := difD_length L fr m
      have hmin := minD_in hd
      unfold blkB
      simp only [List.append_assoc]
      rw [signed_back hmin.1 hmin.2, andS_ok]
      have hw := widS_back (L.length : Int) fr (minD (difD L fr m)) (difD L fr m) (npW (difD L fr m)) (4 - npW (difD L fr m)) 0
      have hnp : npW (difD L fr m) ≤ 4 := by unfold npW; omega
      rw [show npW (difD L fr m) + (4 - npW (difD L fr m)) = 4 by omega] at hw
      have hw2 := hw (psR (minD (difD L fr m)) (difD L fr m) (npW (difD L fr m)) 0 ++ T) (fun j hj => by unfold npW at hj; omega)
      simp only [List.append_assoc] at hw2
      have hblk : ((fr : Int) + 128) = ((fr + 128 : Nat) : Int) := by omega
      rw [hw2, andS_ok]
      have hp := partsS_back (L.length : Int) fr (minD (difD L fr m)) (difD L fr m) hd (by omega) (npW (difD L fr m)) 0 (L.take fr) T (by omega) (by rw [List.length_take]; omega) (by omega) (by omega) (by rw [List.length_take]; omega)
      rw [hp, andS_ok, Nat.mul_zero, List.drop_zero, difs_back L hx fr h1 m (by omega)]
      have ht : L.take (fr + m) = L.take (fr + 128) := by
        by_cases e : m = 128
        · rw [e]
        · rw [List.take_of_length_le (by omega), List.take_of_length_le (by omega)]
      rw [ht, hT, hblk]
      exact loop_back L hx dd kk (fr + 128) tl (by omega) (by omega) (by omega)
    · have hL : L.take fr = L := List.take_of_length_le (by omega)
      rw [hL, blksD, if_neg c]
      cases kk with
      | zero => rfl
      | succ kk => rw [loopS, if_neg (by omega)]; rfl
def listB (L : List Int) : List Int := [128, 1, 4] ++ (vb L.length ++ if L.length = 0 then [0] else vb (zz (rd L 0)).toNat ++ (allD L).flatMap blkB)
theorem blksD_ok (L : List Int) : ∀ (dd : Nat) (at_ : Int), ∀ d ∈ blksD L dd at_, (∀ x ∈ d, inI x) ∧ 0 < d.length ∧ d.length ≤ 128
  | 0, _, d, h => by cases h
  | dd + 1, at_, d, h => by
    rw [blksD] at h
    split at h
    · rcases List.mem_cons.1 h with rfl | h
      · exact ⟨difD_in _ _ _, by rw [difD_length]; omega, by rw [difD_length]; omega⟩
      · exact blksD_ok L dd _ d h
    · cases h
theorem blksD_count (L : List Int) : ∀ (dd : Nat) (at_ : Int), (blksD L dd at_).length ≤ dd
  | 0, _ => Nat.le_refl _
  | dd + 1, at_ => by
    rw [blksD]
    split
    · rw [List.length_cons]; exact Nat.succ_le_succ (blksD_count L dd _)
    · simp
theorem laids_eq {k : Nat} (hk : 3000 ≤ k) : ∀ (ds : List (List Int)) (out : List Int), (∀ d ∈ ds, (∀ x ∈ d, inI x) ∧ 0 < d.length ∧ d.length ≤ 128) → out.length + 1040 * ds.length ≤ 99999990 → ds.foldlM (laidF k) out = some (out ++ ds.flatMap blkB)
  | [], out, _, _ => by simp
  | d :: ds, out, h, hl => by
    obtain ⟨h1, h2, h3⟩ := h d (by simp)
    have hb := blkB_length h1 h3
    rw [List.length_cons] at hl
    rw [List.foldlM_cons, laid_eq hk h1 h2 h3 (by omega)]
    show ds.foldlM (laidF k) (out ++ blkB d) = _
    rw [laids_eq hk ds _ (fun d hd => h d (by simp [hd])) (by rw [List.length_append]; omega)]
    simp
theorem rd0_in {L : List Int} (hx : ∀ x ∈ L, inI x) : inI (rd L 0) := by
  cases L with
  | nil => exact ⟨by decide, by decide⟩
  | cons x L => exact hx x (by simp)
theorem writeB_eq {k : Nat} (hk : 3000 ≤ k) {L : List Int} (hx : ∀ x ∈ L, inI x) (hl : L.length ≤ 65536) : writeB k L = some (listB L) := by
  have h0 := rd0_in hx
  have hz := zz_range h0.1 h0.2
  have hv := vb_length64 (n := (zz (rd L 0)).toNat) (by omega)
  have hv2 := vb_length64 (n := L.length) (by omega)
  have hn := number (k := k) (acc := [128, 1, 4]) (x := (L.length : Int)) (by omega) (by simp) (by omega) (by omega)
  rw [show ((L.length : Int)).toNat = L.length from rfl] at hn
  unfold writeB listB
  rw [hn, Option.bind_some]
  by_cases c : L.length = 0
  · rw [if_pos c, if_pos c]; simp
  · have hc := blksD_count L 600 1
    rw [if_neg c, if_neg c, signed (by omega) (by rw [List.length_append, List.length_cons, List.length_cons, List.length_cons, List.length_nil]; omega) h0.1 h0.2, Option.bind_some, laids_eq hk (allD L) _ (blksD_ok L 600 1) (by
      simp only [List.length_append, List.length_cons, List.length_nil]
      have : (allD L).length ≤ 600 := hc
      omega)]
    simp only [List.append_assoc]
theorem list_back {L : List Int} (hx : ∀ x ∈ L, inI x) (hl : L.length ≤ 65536) (tl : List Int) : listS (listB L ++ tl) = .ok (L, tl) := by
  have h0 := rd0_in hx
  have hz := zz_range h0.1 h0.2
  have e128 : vb 128 = [128, 1] := by rw [vb_big (by omega), vb_small (by omega)]; rfl
  have e4 : vb 4 = [4] := by rw [vb_small (by omega)]; rfl
  have e0 : vb 0 = [0] := by rw [vb_small (by omega)]; rfl
  have eh : ([128, 1, 4] : List Int) = vb 128 ++ vb 4 := by rw [e128, e4]; rfl
  unfold listB listS wantS
  rw [eh]
  simp only [List.append_assoc]
  rw [numS_back (by omega), andS_ok, if_pos (by rfl)]
  rw [numS_back (by omega), andS_ok, if_pos (by rfl)]
  unfold tailS
  rw [numS_back (by omega), andS_ok, if_pos (by omega)]
  by_cases c : L.length = 0
  · rw [if_pos c]
    have hL : L = [] := List.length_eq_zero_iff.1 c
    subst hL
    have es : mapS sgnV (numS 0 0 ([0] ++ tl)) = .ok ((0 : Int), tl) := by
      have := signed_back (y := 0) (by omega) (by omega) tl
      rw [show (zz 0).toNat = 0 by decide, e0] at this
      exact this
    rw [es, andS_ok, if_pos (.inr rfl), if_pos (by rfl)]
  · rw [if_neg c]
    simp only [List.append_assoc]
    rw [signed_back h0.1 h0.2, andS_ok, if_pos (.inl (by omega)), if_neg (by omega)]
    have hf : [rd L 0] = L.take 1 := by
      have := take_snoc L 0 (by omega)
      rw [this]; rfl
    rw [hf]
    have := loop_back L hx 600 513 1 tl (by omega) (by omega) (by omega)
    exact this
theorem wsR_range (least : Int) (d : List Int) : ∀ (m i : Nat), ∀ x ∈ wsR least d m i, 0 ≤ x ∧ x ≤ 255
  | 0, _, x, h => by cases h
  | m + 1, i, x, h => by
    have := topW_range least (cutW d i)
    rcases List.mem_cons.1 h with rfl | h
    · omega
    · exact wsR_range least d m _ x h
theorem psR_range (least : Int) (d : List Int) : ∀ (m i : Nat), ∀ x ∈ psR least d m i, 0 ≤ x ∧ x ≤ 255
  | 0, _, x, h => by cases h
  | m + 1, i, x, h => by
    rcases List.mem_append.1 h with h | h
    · exact packB_range (allBits_range _ _) x h
    · exact psR_range least d m _ x h
theorem blkB_range (d : List Int) : ∀ x ∈ blkB d, 0 ≤ x ∧ x ≤ 255 := by
  intro x h
  unfold blkB at h
  rcases List.mem_append.1 h with h | h
  · rcases List.mem_append.1 h with h | h
    · exact vb_range _ x h
    · rcases List.mem_append.1 h with h | h
      · exact wsR_range _ _ _ _ x h
      · obtain ⟨_, rfl⟩ := List.mem_replicate.1 h; omega
  · exact psR_range _ _ _ _ x h
theorem listB_range (L : List Int) : ∀ x ∈ listB L, 0 ≤ x ∧ x ≤ 255 := by
  intro x h
  unfold listB at h
  rcases List.mem_append.1 h with h | h
  · simp at h; omega
  rcases List.mem_append.1 h with h | h
  · exact vb_range _ x h
  split at h
  · simp at h; omega
  · rcases List.mem_append.1 h with h | h
    · exact vb_range _ x h
    · obtain ⟨d, _, hd⟩ := List.mem_flatMap.1 h
      exact blkB_range d x hd
theorem write_eq {k : Nat} (hk : 3000 ≤ k) {L : List Int} (hx : ∀ x ∈ L, inI x) (hl : L.length ≤ 65536) : delta_Write.f k L = some (listB L, 0) := by
  unfold delta_Write.f
  rw [if_neg (by omega), writeB_eq hk hx hl]; rfl
theorem addS_in (n least : Int) : ∀ (xs l : List Int), (∀ x ∈ l, inI x) → ∀ x ∈ addS n least xs l, inI x
  | [], l, h => h
  | y :: xs, l, h => by
    rw [addS]
    split
    · exact h
    · refine addS_in n least xs _ fun x hx => ?_
      rcases List.mem_append.1 hx with hx | hx
      · exact h x hx
      · rw [List.mem_singleton.1 hx]; exact wrap_in _
theorem andS_inv {α β : Type} {r : Except Int (α × List Int)} {k : α → List Int → Except Int (β × List Int)} {v : β} {b : List Int} (h : andS r k = .ok (v, b)) : ∃ v1 b1, r = .ok (v1, b1) ∧ k v1 b1 = .ok (v, b) := by
  cases r with
  | error x => rw [andS_err] at h; cases h
  | ok p => exact ⟨p.1, p.2, rfl, h⟩
theorem partsS_in (n fr least : Int) : ∀ (ws : List Int) (i : Nat) (l b l' r : List Int), (∀ x ∈ l, inI x) → partsS n fr least ws i l b = .ok (l', r) → ∀ x ∈ l', inI x
  | [], i, l, b, l', r, hl, h => by
    obtain ⟨rfl, _⟩ : l = l' ∧ b = r := by simpa [partsS] using h
    exact hl
  | w :: ws, i, l, b, l', r, hl, h => by
    rw [partsS] at h
    split at h
    · obtain ⟨rfl, _⟩ : l = l' ∧ b = r := by simpa using h
      exact hl
    · obtain ⟨v1, b1, _, h⟩ := andS_inv h
      exact partsS_in n fr least ws _ _ _ l' r (addS_in n least v1 l hl) h
theorem loopS_in (n : Int) : ∀ (k : Nat) (fr : Int) (l b l' r : List Int), (∀ x ∈ l, inI x) → loopS n k fr l b = .ok (l', r) → ∀ x ∈ l', inI x
  | 0, fr, l, b, l', r, hl, h => by
    obtain ⟨rfl, _⟩ : l = l' ∧ b = r := by simpa [loopS] using h
    exact hl
  | k + 1, fr, l, b, l', r, hl, h => by
    rw [loopS] at h
    split at h
    · obtain ⟨v1, b1, _, h⟩ := andS_inv h
      obtain ⟨v2, b2, _, h⟩ := andS_inv h
      obtain ⟨v3, b3, h3, h⟩ := andS_inv h
      exact loopS_in n k _ v3 b3 l' r (partsS_in n fr _ _ _ _ _ _ _ hl h3) h
    · obtain ⟨rfl, _⟩ : l = l' ∧ b = r := by simpa using h
      exact hl
theorem sgnV_in (n : Int) : inI (sgnV n) := by
  unfold sgnV
  show inI (IntKind.i64.wrap _)
  rw [IntKind.wrap_i64]
  unfold inI
  omega
theorem mapS_inv {α β : Type} {f : α → β} {r : Except Int (α × List Int)} {v : β} {b : List Int} (h : mapS f r = .ok (v, b)) : ∃ v1, v = f v1 := by
  cases r with
  | error x => simp [mapS] at h
  | ok p => simp [mapS] at h; exact ⟨p.1, h.1.symm⟩
theorem listS_in {b l r : List Int} (h : listS b = .ok (l, r)) : ∀ x ∈ l, inI x := by
  unfold listS wantS at h
  obtain ⟨v1, b1, _, h⟩ := andS_inv h
  split at h
  · obtain ⟨v2, b2, _, h⟩ := andS_inv h
    split at h
    · unfold tailS at h
      obtain ⟨v3, b3, _, h⟩ := andS_inv h
      split at h
      · obtain ⟨v4, b4, h4, h⟩ := andS_inv h
        split at h
        · split at h
          · obtain ⟨rfl, _⟩ : [] = l ∧ b4 = r := by simpa using h
            simp
          · obtain ⟨y, rfl⟩ := mapS_inv h4
            refine loopS_in _ _ _ _ _ _ _ (fun x hx => ?_) h
            rw [List.mem_singleton.1 hx]
            exact sgnV_in y
        · cases h
      · cases h
    · cases h
  · cases h
def beginR (b : List Int) : List Int × Int × Int :=
  match listS b with
  | .error x => ([], 0, x)
  | .ok (l, r) => if (strOfNums (listB l)).toList = (strOfNums (b.take (b.length - r.length))).toList then (l, ((b.length - r.length : Nat) : Int), 0) else ([], 0, 8)
theorem begin_eq {k : Nat} (hk : 3000 ≤ k) {b : List Int} (hu : ∀ x ∈ b, 0 ≤ x ∧ x ≤ 255) : delta_Begin.f k b = some (beginR b) := by
  unfold delta_Begin.f
  rw [if_pos (u8All_iff.2 hu)]
  unfold beginF beginR
  cases h : listS b with
  | error x => rfl
  | ok p =>
    obtain ⟨l, r⟩ := p
    simp only []
    rw [writeB_eq hk (listS_in h) (listS_len h), Option.bind_some]
    unfold bytes_Equal.f
    rw [Option.bind_some]
    by_cases c : (strOfNums (listB l)).toList = (strOfNums (b.take (b.length - r.length))).toList
    · rw [if_pos c, if_pos (by simp [c])]
    · rw [if_neg c, if_neg (by simp [c])]
theorem begin_back {L : List Int} (hx : ∀ x ∈ L, inI x) (hl : L.length ≤ 65536) (tl : List Int) : beginR (listB L ++ tl) = (L, ((listB L).length : Int), 0) := by
  unfold beginR
  rw [list_back hx hl]
  simp only []
  have e : (listB L ++ tl).length - tl.length = (listB L).length := by rw [List.length_append]; omega
  rw [e, List.take_left', if_pos rfl]
  rfl
end Go.Proofs.Ytbncfhmfohpfbaa.D13
end

section
namespace Go.Proofs.Ytbncfhmfohpfbaa.D13
set_option linter.unusedVariables false
set_option linter.unusedSimpArgs false
open Go.RowKit Go.Proofs.Ytbncfhmfohpfbaa.X Go.Proofs.YtbncfhmfohpfbaaW.PrintWords Go.Proofs.YtbncfhmfohpfbaaW.PrintLast Go.Proofs.YtbncfhmfohpfbaaW.PrintMore Go.Proofs.Ytbncfhmfohpfbaa.Bx Go.Proofs.Ytbncfhmfohpfbaa.Nx Go.Proofs.Ytbncfhmfohpfbaa.Px
theorem same_l (l : List Int) (hl : l.length ≤ 1000000000) : ∀ (d k i : Nat), i + d = l.length → d < k → marquetrylaw13_same.l0 k l l (i : Int) = some true
  | 0, k, i, h, hk => by
    obtain ⟨k, rfl⟩ : ∃ j, k = j + 1 := ⟨k - 1, by omega⟩
    rw [marquetrylaw13_same.l0, if_neg (by omega)]
  | d + 1, k, i, h, hk => by
    obtain ⟨k, rfl⟩ : ∃ j, k = j + 1 := ⟨k - 1, by omega⟩
    rw [marquetrylaw13_same.l0, if_pos (by omega), if_pos (by omega), if_pos (by omega), if_pos rfl, w64 (by omega) (by omega)]
    exact same_l l hl d k (i + 1) (by omega) (by omega)
theorem same {k : Nat} {l : List Int} (hl : l.length ≤ 1000000000) (hk : l.length < k) : marquetrylaw13_same.f k l l = some true := by
  unfold marquetrylaw13_same.f
  rw [if_pos rfl]
  exact same_l l hl l.length k 0 (by omega) hk
def readR (b : List Int) (count : Int) : List Int × Int :=
  if count < 0 ∨ 65536 < count then ([], 2) else
    if (beginR b).2.2 = 0 then (if ((beginR b).1.length : Int) = count then (if (beginR b).2.1 < (b.length : Int) then ([], 7) else ((beginR b).1, 0)) else ([], 8)) else ([], (beginR b).2.2)
theorem read_eq {k : Nat} (hk : 3001 ≤ k) {b : List Int} (hu : ∀ x ∈ b, 0 ≤ x ∧ x ≤ 255) (count : Int) : delta_Read.f k b count = some (readR b count) := by
  obtain ⟨k, rfl⟩ : ∃ j, k = j + 1 := ⟨k - 1, by omega⟩
  unfold delta_Read.f readR
  by_cases c : count < 0
  · rw [if_pos c, if_pos (.inl c), delta_Read.j0, if_pos rfl]
  · rw [if_neg c]
    by_cases c2 : count > 65536
    · rw [if_pos (.inr c2), decide_eq_true c2, delta_Read.j0, if_pos rfl]
    · rw [if_neg (by omega), decide_eq_false c2, delta_Read.j0, if_neg (by decide), begin_eq (by omega) hu, Option.bind_some]
      split
      · split
        · split <;> rfl
        · rfl
      · rfl
theorem read_back {L : List Int} (hx : ∀ x ∈ L, inI x) (hl : L.length ≤ 65536) : readR (listB L) (L.length : Int) = (L, 0) := by
  have := begin_back hx hl []
  rw [List.append_nil] at this
  unfold readR
  rw [this, if_neg (by omega), if_pos rfl, if_pos rfl, if_neg (show ¬ ((listB L).length : Int) < ((listB L).length : Int) by omega)]
def vbF : Nat → Nat → List Int
  | 0, n => [(n : Int)]
  | f + 1, n => if n < 128 then [(n : Int)] else ((n % 128 + 128 : Nat) : Int) :: vbF f (n / 128)
theorem vb_F : ∀ (f n : Nat), n < 128 ^ (f + 1) → vb n = vbF f n
  | 0, n, h => vb_small (by simpa using h)
  | f + 1, n, h => by
    rw [vbF]
    split
    · rename_i c; exact vb_small c
    · rw [vb_big (by omega), vb_F f (n / 128) (by rw [Nat.pow_succ] at h; omega)]
def L1 : List Int := [7, 5, 3, 1, 2, 3, 4, 5]
def L2 : List Int := [-9223372036854775808, 9223372036854775807]
theorem L1_in : ∀ x ∈ L1, inI x := by intro x h; simp [L1] at h; unfold inI; omega
theorem L2_in : ∀ x ∈ L2, inI x := by intro x h; simp [L2] at h; unfold inI; omega
theorem L1_bytes : listB L1 = [128, 1, 4, 8, 14, 3, 2, 0, 0, 0, 192, 63, 0, 0, 0, 0, 0, 0] := by
  have e1 : allD L1 = [[-2, -2, -2, 1, 1, 1, 1]] := by kernel_rfl
  have e2 : blkB [-2, -2, -2, 1, 1, 1, 1] = vb 3 ++ [2, 0, 0, 0, 192, 63, 0, 0, 0, 0, 0, 0] := by kernel_rfl
  unfold listB
  rw [e1, List.flatMap_cons, e2, show vb L1.length = [8] from vb_small (by decide), show vb (zz (rd L1 0)).toNat = [14] from vb_small (by decide), show vb 3 = [3] from vb_small (by decide)]
  rfl
theorem L2_bytes : (listB L2).length = 19 := by
  have e1 : allD L2 = [[-1]] := by kernel_rfl
  have e2 : blkB [-1] = vb 1 ++ [0, 0, 0, 0] := by kernel_rfl
  have e3 : vb (zz (rd L2 0)).toNat = vbF 9 18446744073709551615 := vb_F 9 _ (by decide)
  unfold listB
  rw [e1, List.flatMap_cons, e2, e3, show vb L2.length = [2] from vb_small (by decide), show vb 1 = [1] from vb_small (by decide)]
  rfl
theorem works {k : Nat} (hk : 3001 ≤ k) : marquetrylaw13_works.f k = some true := by
  have h1 := write_eq (k := k) (by omega) L1_in (by decide)
  have h2 := write_eq (k := k) (by omega) L2_in (by decide)
  have hu := listB_range L1
  have h3 := begin_eq (k := k) (by omega) (b := listB L1 ++ [9]) (fun x hx => by
    rcases List.mem_append.1 hx with h | h
    · exact hu x h
    · simp at h; omega)
  rw [begin_back L1_in (by decide) [9]] at h3
  have h4 : delta_Read.f k (listB L1) 8 = some (L1, 0) := (read_eq (k := k) hk hu 8).trans (congrArg some (read_back L1_in (by decide)))
  have hs := same (k := k) (l := L1) (by decide) (by have : L1.length = 8 := rfl; omega)
  have hl2 := L2_bytes
  unfold marquetrylaw13_works.f
  rw [show ([7, 5, 3, 1, 2, 3, 4, 5] : List Int) = L1 from rfl, h1, Option.bind_some, Option.bind_some]
  rw [L1_bytes] at h3 h4 ⊢
  rw [if_pos (by decide), Option.bind_some, if_pos (by decide), List.nil_append, h3, Option.bind_some]
  rw [show ([-9223372036854775808, 9223372036854775807] : List Int) = L2 from rfl, h2, Option.bind_some]
  rw [h4, Option.bind_some, if_pos (by kernel_rfl)]
  unfold marquetrylaw13_num.f
  rw [Option.bind_some, Option.bind_some, Option.bind_some, if_pos (by kernel_rfl), hs, Option.bind_some, if_pos rfl, if_pos (by rfl), Option.bind_some, if_pos (by rfl), if_pos (by rw [hl2]; rfl)]
  rfl
end Go.Proofs.Ytbncfhmfohpfbaa.D13
end

section
namespace Go.Proofs.Ytbncfhmfohpfbaa.D13
set_option linter.unusedVariables false
set_option linter.unusedSimpArgs false
open Go.RowKit Go.Proofs.Ytbncfhmfohpfbaa.X Go.Proofs.YtbncfhmfohpfbaaW.PrintWords Go.Proofs.YtbncfhmfohpfbaaW.PrintLast Go.Proofs.YtbncfhmfohpfbaaW.PrintMore Go.Proofs.Ytbncfhmfohpfbaa.Bx Go.Proofs.Ytbncfhmfohpfbaa.Nx Go.Proofs.Ytbncfhmfohpfbaa.Px
theorem tmod_u64 {x : Int} (y : Int) (hx : 0 ≤ x) : x.tmod y = x % y := Int.tmod_eq_emod_of_nonneg hx
theorem ref_number_l : ∀ (k : Nat) (x : Int) (acc : List Int), 0 ≤ x → x ≤ 18446744073709551615 → acc.length + (vb x.toNat).length < 140737488355328 → (vb x.toNat).length ≤ k → marquetryref13_Number.l0 k x acc = some (acc ++ vb x.toNat)
  | 0, x, acc, _, _, _, h => by
    exfalso
    by_cases c : x.toNat < 128
    · rw [vb_small c] at h; simp at h
    · rw [vb_big (by omega)] at h; simp at h
  | k + 1, x, acc, h0, h1, h2, h => by
    rw [marquetryref13_Number.l0, u64_tdiv 128 h0 h1 (by decide), tmod_u64 128 h0, u64w]
    by_cases c : x ≥ 128
    · have e := vb_big (n := x.toNat) (by omega)
      rw [e, List.length_cons] at h h2
      rw [if_pos c, if_pos (by omega), e]
      have q : (x / 128).toNat = x.toNat / 128 := by omega
      rw [ref_number_l k (x / 128) _ (by omega) (by omega) (by rw [q]; simp; omega) (by rw [q]; omega), q]
      have r : (128 + x % 128) % 18446744073709551616 % 256 = ((x.toNat % 128 + 128 : Nat) : Int) := by omega
      rw [r]; simp
    · have e := vb_small (n := x.toNat) (by omega)
      rw [e, List.length_singleton] at h2
      rw [if_neg c, if_pos (by omega), e, show x % 256 = ((x.toNat : Nat) : Int) by omega]
theorem ref_number {k : Nat} {x : Int} (hk : 10 ≤ k) (h0 : 0 ≤ x) (h1 : x ≤ 18446744073709551615) : marquetryref13_Number.f k x = some (vb x.toNat) := by
  have := vb_length64 (n := x.toNat) (by omega)
  have h := ref_number_l k x [] h0 h1 (by simp; omega) (by omega)
  rw [List.nil_append] at h
  exact h
theorem ref_signed {k : Nat} {y : Int} (hk : 10 ≤ k) (h : -9223372036854775808 ≤ y) (h' : y ≤ 9223372036854775807) : marquetryref13_Signed.f k y = some (vb (zz y).toNat) := by
  have hz := zz_range h h'
  unfold marquetryref13_Signed.f
  by_cases c : y < 0
  · have e : IntKind.u64.wrap (IntKind.u64.wrap (2 * IntKind.u64.wrap (wrap64 (-wrap64 (y + 1)))) + 1) = zz y := by
      rw [w64 (a := y + 1) (by omega) (by omega), w64 (by omega) (by omega), u64w, u64w, u64w]
      unfold zz
      rw [if_neg (by omega)]
      omega
    rw [if_pos c, e, ref_number hk hz.1 hz.2]; rfl
  · have e : IntKind.u64.wrap (2 * IntKind.u64.wrap y) = zz y := by
      rw [u64w, u64w]
      unfold zz
      rw [if_pos (by omega)]
      omega
    rw [if_neg c, e, ref_number hk hz.1 hz.2]; rfl
theorem and_mask32 (a : Int) : bits .and .i64 a 4294967295 = a % 4294967296 := by
  show IntKind.i64.wrap ((BitVec.ofInt 64 a &&& BitVec.ofInt 64 4294967295).toNat : Int) = _
  have e : (BitVec.ofInt 64 a &&& BitVec.ofInt 64 4294967295).toNat = (a % 4294967296).toNat := by
    rw [BitVec.toNat_and, BitVec.toNat_ofInt, BitVec.toNat_ofInt]
    have b : ((4294967295 : Int) % ((2 ^ 64 : Nat) : Int)).toNat = 2 ^ 32 - 1 := by decide
    rw [b, Nat.and_two_pow_sub_one_eq_mod]
    omega
  rw [e, IntKind.wrap_i64]
  omega
theorem ref_halves {a : Int} (h : inI a) : marquetryref13_halves.f a = some (a / 4294967296 % 4294967296, a % 4294967296) := by
  obtain ⟨h1, h2⟩ := h
  unfold marquetryref13_halves.f
  rw [and_mask32]
  by_cases c : a / 4294967296 < 0
  · rw [if_pos c, w64 (by omega) (by omega), show a / 4294967296 + 4294967296 = a / 4294967296 % 4294967296 by omega]
  · rw [if_neg c, show a / 4294967296 = a / 4294967296 % 4294967296 by omega]
    simp
theorem ref_whole {u v : Int} (hu : 0 ≤ u) (hu1 : u < 4294967296) (hv : 0 ≤ v) (hv1 : v < 4294967296) : marquetryref13_whole.f u v = some (wrap64 (u * 4294967296 + v)) := by
  unfold marquetryref13_whole.f
  by_cases c : u ≥ 2147483648
  · rw [if_pos c, w64 (a := u - 4294967296) (by omega) (by omega), w64 (a := (u - 4294967296) * 4294967296) (by omega) (by omega)]
    congr 1
    unfold wrap64; omega
  · rw [if_neg c, w64 (a := u * 4294967296) (by omega) (by omega)]
theorem sub_halves {a b u v : Int} (ha : 0 ≤ u) (hu : u < 4294967296) (hv : 0 ≤ v) (hv1 : v < 4294967296) (h : (u * 4294967296 + v - (a - b)) % 18446744073709551616 = 0) : marquetryref13_whole.f u v = some (wrap64 (a - b)) := by
  rw [ref_whole ha hu hv hv1]
  congr 1
  unfold wrap64
  omega
theorem ref_sub {a b : Int} (ha : inI a) (hb : inI b) : marquetryref13_Sub.f a b = some (wrap64 (a - b)) := by
  unfold marquetryref13_Sub.f
  rw [ref_halves ha, Option.bind_some, ref_halves hb, Option.bind_some]
  simp only []
  obtain ⟨A, hA⟩ : ∃ A, A = a / 4294967296 := ⟨_, rfl⟩
  obtain ⟨B, hB⟩ : ∃ B, B = b / 4294967296 := ⟨_, rfl⟩
  obtain ⟨x, hx⟩ : ∃ x, x = a % 4294967296 := ⟨_, rfl⟩
  obtain ⟨y, hy⟩ : ∃ y, y = b % 4294967296 := ⟨_, rfl⟩
  have ea : a = A * 4294967296 + x := by omega
  have eb : b = B * 4294967296 + y := by omega
  have rA : -2147483648 ≤ A ∧ A < 2147483648 := by obtain ⟨h1, h2⟩ := ha; omega
  have rB : -2147483648 ≤ B ∧ B < 2147483648 := by obtain ⟨h1, h2⟩ := hb; omega
  have rx : 0 ≤ x ∧ x < 4294967296 := by omega
  have ry : 0 ≤ y ∧ y < 4294967296 := by omega
  rw [← hA, ← hB, ← hx, ← hy]
  clear hA hB hx hy ha hb
  obtain ⟨P, hP⟩ : ∃ P, P = A % 4294967296 := ⟨_, rfl⟩
  obtain ⟨Q, hQ⟩ : ∃ Q, Q = B % 4294967296 := ⟨_, rfl⟩
  have rP : 0 ≤ P ∧ P < 4294967296 := by omega
  have rQ : 0 ≤ Q ∧ Q < 4294967296 := by omega
  rw [← hP, ← hQ]
  have w1 : wrap64 (x - y) = x - y := w64 (by omega) (by omega)
  have w2 : wrap64 (P - Q) = P - Q := w64 (by omega) (by omega)
  have w3 : wrap64 (P - Q - 1) = P - Q - 1 := w64 (by omega) (by omega)
  have w4 : wrap64 (P - Q - 1 + 4294967296) = P - Q - 1 + 4294967296 := w64 (by omega) (by omega)
  have w5 : wrap64 (x - y + 4294967296) = x - y + 4294967296 := w64 (by omega) (by omega)
  have w6 : wrap64 (P - Q + 4294967296) = P - Q + 4294967296 := w64 (by omega) (by omega)
  rw [w1, w2, w3, w4, w5, w6, ea, eb]
  clear w1 w2 w3 w4 w5 w6 ea eb
  by_cases c : x - y < 0
  · rw [if_pos c]
    by_cases c2 : P - Q - 1 < 0
    · rw [if_pos c2, sub_halves (a := A * 4294967296 + x) (b := B * 4294967296 + y) (by omega) (by omega) (by omega) (by omega) (by omega)]; rfl
    · rw [if_neg c2, sub_halves (a := A * 4294967296 + x) (b := B * 4294967296 + y) (by omega) (by omega) (by omega) (by omega) (by omega)]; rfl
  · rw [if_neg c]
    by_cases c2 : P - Q < 0
    · rw [if_pos c2, sub_halves (a := A * 4294967296 + x) (b := B * 4294967296 + y) (by omega) (by omega) (by omega) (by omega) (by omega)]; rfl
    · rw [if_neg c2, sub_halves (a := A * 4294967296 + x) (b := B * 4294967296 + y) (by omega) (by omega) (by omega) (by omega) (by omega)]; rfl
theorem ref_width_l : ∀ (f k : Nat) (x : Nat) (acc : Nat), x < 2 ^ f → f ≤ 63 → acc + f ≤ 1000 → f < k → marquetryref13_Width.l0 k (x : Int) (acc : Int) = some ((acc + Lib.bitLenAux f x : Nat) : Int)
  | 0, k, x, acc, h, hf, ha, hk => by
    obtain ⟨k, rfl⟩ : ∃ j, k = j + 1 := ⟨k - 1, by omega⟩
    rw [marquetryref13_Width.l0, if_neg (by simp at h; omega)]; simp [Lib.bitLenAux]
  | f + 1, k, x, acc, h, hf, ha, hk => by
    obtain ⟨k, rfl⟩ : ∃ j, k = j + 1 := ⟨k - 1, by omega⟩
    have hp : 2 ^ (f + 1) ≤ 2 ^ 63 := Nat.pow_le_pow_right (by decide) hf
    have hp2 : 2 ^ 63 = 9223372036854775808 := by decide
    rw [marquetryref13_Width.l0]
    unfold Lib.bitLenAux
    by_cases c : x = 0
    · rw [if_neg (by omega), if_pos c]; simp
    · rw [if_pos (by omega), if_neg c, Int.tdiv_eq_ediv_of_nonneg (by omega), show (x : Int) / 2 = ((x / 2 : Nat) : Int) by omega, w64 (by omega) (by omega), w64 (by omega) (by omega), show (acc : Int) + 1 = ((acc + 1 : Nat) : Int) by omega, ref_width_l f k (x / 2) (acc + 1) (by rw [Nat.pow_succ] at h; omega) (by omega) (by omega) (by omega)]
      congr 2
      omega
theorem ref_width {k : Nat} {x : Int} (hk : 100 ≤ k) (h : inI x) : marquetryref13_Width.f k x = some (W64 x) := by
  obtain ⟨h1, h2⟩ := h
  unfold marquetryref13_Width.f
  by_cases c : x < 0
  · rw [if_pos c]
    have hr := W64_range x
    have hlt := W64_lt x
    congr 1
    by_cases q : W64 x ≤ 63
    · exfalso
      have hp : 2 ^ (W64 x).toNat ≤ 2 ^ 63 := Nat.pow_le_pow_right (by decide) (by omega)
      have hp2 : 2 ^ 63 = 9223372036854775808 := by decide
      omega
    · omega
  · rw [if_neg c]
    obtain ⟨n, rfl⟩ := Int.eq_ofNat_of_zero_le (show 0 ≤ x by omega)
    have := ref_width_l 63 k n 0 (by omega) (by omega) (by omega) (by omega)
    rw [show ((0 : Nat) : Int) = 0 from rfl, Nat.zero_add] at this
    rw [this]
    unfold W64 Lib.bitLen
    rw [u64w, show ((n : Int) % 18446744073709551616).toNat = n by omega, Lib.bitLenAux_fuel 63 n (by omega) 64 (by omega)]
theorem ref_byte {B : List Int} (hB : ∀ b ∈ B, b = 0 ∨ b = 1) {L : Nat} (hL : B.length = L) :
    bits .or .u8 (byteAt B (L / 8)) (shl .u8 1 ((L % 8 : Nat) : Int)) = byteAt B (L / 8) + 1 * 2 ^ (L % 8) := by
  have hb1 := byteAt_range hB (L / 8)
  have hb2 := byteAt_last hB
  rw [hL] at hb2
  have hr8 : L % 8 = 0 ∨ L % 8 = 1 ∨ L % 8 = 2 ∨ L % 8 = 3 ∨ L % 8 = 4 ∨ L % 8 = 5 ∨ L % 8 = 6 ∨ L % 8 = 7 := by omega
  have hs : shl .u8 1 ((L % 8 : Nat) : Int) = 1 * 2 ^ (L % 8) := by
    unfold shl
    rw [show min (((L % 8 : Nat) : Int)).toNat IntKind.u8.bits = L % 8 from by show min _ 8 = _; omega, IntKind.wrap_u8]
    rcases hr8 with h | h | h | h | h | h | h | h <;> rw [h] <;> decide
  rw [hs]
  have hp : (0 : Int) < 2 ^ (L % 8) := Int.pow_pos (by decide)
  have hp2 : (2 : Int) ^ (L % 8) ≤ 128 := by rcases hr8 with h | h | h | h | h | h | h | h <;> rw [h] <;> decide
  exact or_low_high8 (L % 8) _ _ hb1.1 hb2 (by omega) (Int.mul_emod_left _ _) (by omega) (by omega)
set_option maxHeartbeats 1000000 in
theorem ref_pk_l1 : ∀ (d : Nat) (k : Nat) (W : Nat) (n c i : Nat) (x : Int) (B ys : List Int), (∀ b ∈ B, b = 0 ∨ b = 1) → c + d = W → W ≤ 64 → i < ys.length → rd ys (i : Int) = x → B.length = i * W + c → B.length + d ≤ 1000000000 → i ≤ 1000000 → (B.length + d + 7) / 8 ≤ n →
    marquetryref13_Pack.l1 (k + d + 1) (W : Int) ys ((List.range n).map (byteAt B)) (i : Int) (c : Int) = marquetryref13_Pack.l0 k (W : Int) ys ((List.range n).map (byteAt (B ++ bitsFrom x c d))) (wrap64 ((i : Int) + 1))
  | 0, k, W, n, c, i, x, B, ys, hB, hc, hW, hi, hx, hl, hl2, hi2, hn => by
    rw [show k + 0 + 1 = k + 1 by omega, marquetryref13_Pack.l1, if_neg (by omega)]; simp [bitsFrom]
  | d + 1, k, W, n, c, i, x, B, ys, hB, hc, hW, hi, hx, hl, hl2, hi2, hn => by
    have hm : (i : Int) * (W : Int) = ((i * W : Nat) : Int) := (Int.natCast_mul _ _).symm
    have hiW : i * W ≤ 1000000000 := by omega
    rw [show k + (d + 1) + 1 = (k + d + 1) + 1 by omega, marquetryref13_Pack.l1, if_pos (by omega), if_pos (by omega), if_pos (by omega), if_pos (by omega), hx]
    have hsh : shr .i64 x (c : Int) = x / 2 ^ c := by
      unfold shr
      rw [show min ((c : Int)).toNat IntKind.i64.bits = c from by show min _ 64 = _; omega]
    rw [hsh, and_one_i64, hm, w64n hiW, show ((i * W : Nat) : Int) + (c : Int) = ((B.length : Nat) : Int) by omega, w64n (by omega), Int.tdiv_eq_ediv_of_nonneg (by omega), show (B.length : Int) / 8 = ((B.length / 8 : Nat) : Int) by omega, w64n (by omega), tmod_u64 8 (by omega), show (B.length : Int) % 8 = ((B.length % 8 : Nat) : Int) by omega]
    have hb : x / 2 ^ c % 2 = 0 ∨ x / 2 ^ c % 2 = 1 := by omega
    have hB' : ∀ b ∈ B ++ [x / 2 ^ c % 2], b = 0 ∨ b = 1 := by
      intro b hb'
      rcases List.mem_append.1 hb' with h | h
      · exact hB b h
      · rw [List.mem_singleton.1 h]; exact hb
    have ih := ref_pk_l1 d k W n (c + 1) i x (B ++ [x / 2 ^ c % 2]) ys hB' (by omega) hW hi hx (by simp; omega) (by simp; omega) hi2 (by simp; omega)
    rw [List.append_assoc, show [x / 2 ^ c % 2] ++ bitsFrom x (c + 1) d = bitsFrom x c (d + 1) from rfl] at ih
    have e : wrap64 ((c : Int) + 1) = ((c + 1 : Nat) : Int) := w64s (by omega)
    have hlt : B.length / 8 < n := by clear ih hl hm hiW hb hx hi hB hB' e hsh; omega
    have hms0 := map_set B 1 n hlt
    obtain ⟨q, hq⟩ : ∃ q, q = B.length / 8 := ⟨_, rfl⟩
    obtain ⟨r, hr⟩ : ∃ r, r = B.length % 8 := ⟨_, rfl⟩
    have hby : bits .or .u8 (byteAt B q) (shl .u8 1 (r : Int)) = byteAt B q + 1 * 2 ^ r := by rw [hq, hr]; exact ref_byte hB rfl
    have hms : ((List.range n).map (byteAt B)).set q (byteAt B q + 1 * 2 ^ r) = (List.range n).map (byteAt (B ++ [1])) := by rw [hq, hr]; exact hms0
    rw [← hq, ← hr]
    rcases hb with h0 | h1
    · rw [if_neg (by rw [h0]; decide), e]
      rw [h0, map_same] at ih
      exact ih
    · rw [h1] at ih
      rw [if_pos h1, if_pos (Int.natCast_nonneg q), if_pos (show (q : Int) < (((List.range n).map (byteAt B)).length : Int) by rw [List.length_map, List.length_range]; exact Int.ofNat_lt.2 (by rw [hq]; exact hlt)), if_pos (Int.natCast_nonneg r), rd_map B n q (by rw [hq]; exact hlt), show ((q : Int)).toNat = q from rfl, hby, hms, e]
      exact ih
theorem ref_pk_l0 : ∀ (ys1 : List Int) (k : Nat) (W : Nat) (n : Nat) (ys ys0 : List Int), ys = ys0 ++ ys1 → W ≤ 64 → ys.length ≤ 1000000 → (ys.length * W + 7) / 8 ≤ n → ys1.length * (W + 2) + 1 ≤ k →
    marquetryref13_Pack.l0 k (W : Int) ys ((List.range n).map (byteAt (allBits W ys0))) (ys0.length : Int) = some ((List.range n).map (byteAt (allBits W ys)))
  | [], k, W, n, ys, ys0, he, hW, hl, hn, hk => by
    obtain ⟨k, rfl⟩ : ∃ j, k = j + 1 := ⟨k - 1, by omega⟩
    rw [List.append_nil] at he
    subst he
    rw [marquetryref13_Pack.l0, if_neg (by omega)]
  | x :: ys1, k, W, n, ys, ys0, he, hW, hl, hn, hk => by
    have hll : ys.length = ys0.length + (ys1.length + 1) := by rw [he]; simp
    have hmw : ys0.length * W + W ≤ ys.length * W := by
      have := Nat.mul_le_mul_right W (show ys0.length + 1 ≤ ys.length by omega)
      rw [Nat.add_mul] at this; omega
    have hmb : ys.length * W ≤ 1000000 * 64 := Nat.mul_le_mul hl hW
    have hkk : (x :: ys1).length * (W + 2) = ys1.length * (W + 2) + (W + 2) := by rw [List.length_cons, Nat.add_mul]; omega
    rw [hkk] at hk
    obtain ⟨k', rfl⟩ : ∃ j, k = (j + W + 1) + 1 := ⟨k - W - 2, by omega⟩
    have hrd : rd ys (ys0.length : Int) = x := by rw [he]; exact rd_snoc
    rw [marquetryref13_Pack.l0, if_pos (by omega)]
    have hq := ref_pk_l1 W k' W n 0 ys0.length x (allBits W ys0) ys (allBits_range W ys0) (by omega) hW (by omega) hrd (by rw [allBits_length]; rfl) (by rw [allBits_length]; omega) (by omega) (by rw [allBits_length]; omega)
    have z : ((0 : Nat) : Int) = 0 := rfl
    rw [z] at hq
    rw [hq, w64 (by omega) (by omega)]
    have e : allBits W ys0 ++ bitsFrom x 0 W = allBits W (ys0 ++ [x]) := by simp [allBits]
    have ih := ref_pk_l0 ys1 k' W n ys (ys0 ++ [x]) (by rw [he]; simp) hW hl hn (by omega)
    rw [List.length_append, List.length_singleton] at ih
    rw [e, show (ys0.length : Int) + 1 = ((ys0.length + 1 : Nat) : Int) by omega]
    exact ih
theorem ref_pack {k : Nat} {W : Nat} {ys : List Int} (hW : W ≤ 64) (hl : ys.length ≤ 1000000) (hk : ys.length * (W + 2) + 2 ≤ k) : marquetryref13_Pack.f k (W : Int) ys = some (packB (allBits W ys)) := by
  obtain ⟨k, rfl⟩ : ∃ j, k = j + 1 := ⟨k - 1, by omega⟩
  unfold marquetryref13_Pack.f
  have hmb : ys.length * W ≤ 1000000 * 64 := Nat.mul_le_mul hl hW
  have hm : ((ys.length * W : Nat) : Int) = (W : Int) * (ys.length : Int) := by rw [Int.natCast_mul, Int.mul_comm]
  rw [if_neg (by omega), show decide ((W : Int) > 64) = false from decide_eq_false (by omega), marquetryref13_Pack.j0, if_neg (by decide), ← hm, w64n (by omega : ys.length * W ≤ 1000000000), w64 (a := ((ys.length * W : Nat) : Int) + 7) (by omega) (by omega), Int.tdiv_eq_ediv_of_nonneg (by omega), w64 (by omega) (by omega), if_pos (by omega), if_pos (by omega)]
  have := ref_pk_l0 ys k W ((((ys.length * W : Nat) : Int) + 7) / 8).toNat ys [] rfl hW hl (by omega) (by omega)
  have e : allBits W [] = [] := rfl
  rw [e, packB_zero] at this
  have z : (([] : List Int).length : Int) = 0 := rfl
  rw [z] at this
  refine Eq.trans (show _ = _ from this) ?_
  congr 1
  unfold packB
  rw [allBits_length]
  congr 2
end Go.Proofs.Ytbncfhmfohpfbaa.D13
end

section
namespace Go.Proofs.Ytbncfhmfohpfbaa.D13
set_option linter.unusedVariables false
set_option linter.unusedSimpArgs false
open Go.RowKit Go.Proofs.Ytbncfhmfohpfbaa.X Go.Proofs.YtbncfhmfohpfbaaW.PrintWords Go.Proofs.YtbncfhmfohpfbaaW.PrintLast Go.Proofs.YtbncfhmfohpfbaaW.PrintMore Go.Proofs.Ytbncfhmfohpfbaa.Bx Go.Proofs.Ytbncfhmfohpfbaa.Nx Go.Proofs.Ytbncfhmfohpfbaa.Px
def StR (B : List Int) (at_ wrong : Int) : Except Int (List Int) → Prop
  | .ok r => wrong = 0 ∧ 0 ≤ at_ ∧ at_ ≤ B.length ∧ B.drop at_.toNat = r
  | .error x => wrong = x ∧ x ≠ 0
def OutR {α : Type} (B : List Int) (val : α → Int) (res : Except Int (α × List Int)) (v at_ wrong : Int) : Prop :=
  match res with
  | .ok (y, r) => v = val y ∧ StR B at_ wrong (.ok r)
  | .error x => StR B at_ wrong (.error x)
theorem next_wrong {k : Nat} {B : List Int} {at_ wrong : Int} (hk : 1 ≤ k) (h : wrong ≠ 0) : marquetryref13_Reader_next.f k B at_ wrong = some (0, at_, wrong) := by
  obtain ⟨k, rfl⟩ : ∃ j, k = j + 1 := ⟨k - 1, by omega⟩
  unfold marquetryref13_Reader_next.f
  rw [if_neg h, marquetryref13_Reader_next.j0, if_neg (by decide), if_neg h]
theorem next_nil {k : Nat} {B : List Int} {at_ : Int} (hk : 1 ≤ k) (h : (B.length : Int) ≤ at_) : marquetryref13_Reader_next.f k B at_ 0 = some (0, at_, 6) := by
  obtain ⟨k, rfl⟩ : ∃ j, k = j + 1 := ⟨k - 1, by omega⟩
  unfold marquetryref13_Reader_next.f
  rw [if_pos rfl, decide_eq_true h, marquetryref13_Reader_next.j0, if_pos rfl]
  unfold marquetryref13_Reader_fail.f
  rw [if_pos rfl, Option.bind_some, if_neg (show ¬ ((6 : Int) = 0) by decide)]
theorem next_one {k : Nat} {B : List Int} {a : Nat} (hk : 1 ≤ k) (h : a < B.length) (hl : B.length ≤ 1000000000) : marquetryref13_Reader_next.f k B (a : Int) 0 = some (rd B (a : Int), ((a + 1 : Nat) : Int), 0) := by
  obtain ⟨k, rfl⟩ : ∃ j, k = j + 1 := ⟨k - 1, by omega⟩
  have e1 : ¬ ((a : Int) ≥ (B.length : Int)) := by omega
  have c1 : (0 : Int) ≤ (a : Int) := by omega
  have c2 : (a : Int) < (B.length : Int) := by omega
  have w1 : wrap64 ((a : Int) + 1) = ((a + 1 : Nat) : Int) := w64s (by omega)
  have w2 : wrap64 (((a + 1 : Nat) : Int) - 1) = (a : Int) := by
    clear w1
    rw [w64 (by omega) (by omega)]; omega
  unfold marquetryref13_Reader_next.f
  rw [if_pos rfl, decide_eq_false e1, marquetryref13_Reader_next.j0, if_neg (by decide), if_pos rfl, w1, w2, if_pos c1, if_pos c2]
theorem drop_rd {B : List Int} {a : Nat} (h : a < B.length) : B.drop a = rd B (a : Int) :: B.drop (a + 1) := by
  rw [List.drop_eq_getElem_cons h, rd_lt B a h]
theorem num_wrong {k : Nat} {B : List Int} {at_ wrong : Int} (hk : 2 ≤ k) (h : wrong ≠ 0) : marquetryref13_Reader_number.f k B at_ wrong = some (0, at_, wrong) := by
  obtain ⟨k, rfl⟩ : ∃ j, k = j + 1 := ⟨k - 1, by omega⟩
  unfold marquetryref13_Reader_number.f
  rw [marquetryref13_Reader_number.l0, if_pos (by decide), next_wrong (by omega) h, Option.bind_some, if_neg h]
theorem numN_step {n c : Int} {j : Nat} (hj : j ≤ 9) (h0 : 0 ≤ n) (h1 : n < 2 ^ (7 * j)) (c0 : 0 ≤ c) (c1 : c ≤ 255) (hc : 7 * j < 63 ∨ c < 2) :
    IntKind.u64.wrap (n + shl .u64 (IntKind.u64.wrap (Int.tmod c 128)) ((7 * j : Nat) : Int)) = numN n c (7 * j) ∧ numN n c (7 * j) = n + c % 128 * 2 ^ (7 * j) ∧ n + c % 128 * 2 ^ (7 * j) < 18446744073709551616 := by
  have hP : (0 : Int) < 2 ^ (7 * j) := Int.pow_pos (by decide)
  have hb : c % 128 * 2 ^ (7 * j) < 18446744073709551616 ∧ n + c % 128 * 2 ^ (7 * j) < 18446744073709551616 := by
    have hjj : j = 0 ∨ j = 1 ∨ j = 2 ∨ j = 3 ∨ j = 4 ∨ j = 5 ∨ j = 6 ∨ j = 7 ∨ j = 8 ∨ j = 9 := by omega
    rcases hjj with rfl | rfl | rfl | rfl | rfl | rfl | rfl | rfl | rfl | rfl <;> simp only [Nat.reduceMul, Int.reducePow] at h1 hc ⊢ <;> omega
  have e1 : Int.tmod c 128 = c % 128 := Int.tmod_eq_emod_of_nonneg c0
  have e2 : shl .u64 (c % 128) ((7 * j : Nat) : Int) = c % 128 * 2 ^ (7 * j) := by
    unfold shl
    rw [show min (((7 * j : Nat) : Int)).toNat IntKind.u64.bits = 7 * j from by show min _ 64 = _; omega, u64w]
    have : 0 ≤ c % 128 * 2 ^ (7 * j) := Int.mul_nonneg (by omega) (by omega)
    exact Int.emod_eq_of_lt this hb.1
  have hm : 0 ≤ c % 128 * 2 ^ (7 * j) := Int.mul_nonneg (by omega) (by omega)
  have hn := numN_eq (n := n) (x := c) (j := j) h0 h1 c0 c1 hb.1 (by omega)
  refine ⟨?_, hn, hb.2⟩
  rw [e1, u64w (c % 128), show c % 128 % 18446744073709551616 = c % 128 by omega, e2, hn, u64w]
  exact Int.emod_eq_of_lt (by omega) hb.2
theorem num_ref : ∀ (d j k a : Nat) (B : List Int) (n : Int), 9 ≤ j + d → j ≤ 9 → 2 * d + 4 ≤ k → a ≤ B.length → B.length ≤ 1000000000 → (∀ x ∈ B, 0 ≤ x ∧ x ≤ 255) → 0 ≤ n → n < 2 ^ (7 * j) →
    ∃ v at_ wrong, marquetryref13_Reader_number.l0 k n ((7 * j : Nat) : Int) B (a : Int) 0 = some (v, at_, wrong) ∧ OutR B id (numS (7 * j) n (B.drop a)) v at_ wrong
  | d, j, k, a, B, n, hd, hj, hk, ha, hl, hu, h0, h1 => by
    obtain ⟨k, rfl⟩ : ∃ i, k = i + 2 := ⟨k - 2, by omega⟩
    have hlt : ((7 * j : Nat) : Int) < 70 := by omega
    rw [marquetryref13_Reader_number.l0, if_pos hlt]
    by_cases hab : a < B.length
    · have hc := hu (rd B (a : Int)) (by rw [rd_lt B a hab]; exact List.getElem_mem _)
      have hnx := next_one (k := k + 1) (by omega) hab hl
      have hdr := drop_rd hab
      obtain ⟨c, hcc⟩ : ∃ c, c = rd B (a : Int) := ⟨_, rfl⟩
      rw [← hcc] at hc hnx hdr
      rw [hnx, Option.bind_some, hdr, numS]
      simp only []
      rw [if_pos trivial]
      have hge : (0 : Int) ≤ ((7 * j : Nat) : Int) := by omega
      by_cases hf : (7 * j < 63 ∨ c < 2) ∧ (7 * j = 0 ∨ 0 < c)
      · obtain ⟨s1, s2, s3⟩ := numN_step hj h0 h1 hc.1 hc.2 hf.1
        have hfal : marquetryref13_Reader_number.j1 (k + 1) n ((7 * j : Nat) : Int) c false B ((a + 1 : Nat) : Int) 0 = if c < 128 then some (numN n c (7 * j), ((a + 1 : Nat) : Int), 0) else marquetryref13_Reader_number.l0 k (numN n c (7 * j)) (wrap64 (((7 * j : Nat) : Int) + 7)) B ((a + 1 : Nat) : Int) 0 := by
          rw [marquetryref13_Reader_number.j1, if_neg (by decide), if_pos hge, s1]
        have hall : (if ((7 * j : Nat) : Int) = 63 then (if c > 1 then (marquetryref13_Reader_number.j1 (k + 1) n ((7 * j : Nat) : Int) c true B ((a + 1 : Nat) : Int) 0) else (if ((7 * j : Nat) : Int) > 0 then (marquetryref13_Reader_number.j1 (k + 1) n ((7 * j : Nat) : Int) c (c == 0) B ((a + 1 : Nat) : Int) 0) else (marquetryref13_Reader_number.j1 (k + 1) n ((7 * j : Nat) : Int) c false B ((a + 1 : Nat) : Int) 0))) else (if ((7 * j : Nat) : Int) > 0 then (marquetryref13_Reader_number.j1 (k + 1) n ((7 * j : Nat) : Int) c (c == 0) B ((a + 1 : Nat) : Int) 0) else (marquetryref13_Reader_number.j1 (k + 1) n ((7 * j : Nat) : Int) c false B ((a + 1 : Nat) : Int) 0))) = marquetryref13_Reader_number.j1 (k + 1) n ((7 * j : Nat) : Int) c false B ((a + 1 : Nat) : Int) 0 := by
          have hcz : ((7 * j : Nat) : Int) > 0 → (c == 0) = false := fun h => beq_eq_false_iff_ne.2 (by omega)
          by_cases e : ((7 * j : Nat) : Int) = 63
          · rw [if_pos e, if_neg (by omega)]
            by_cases g : ((7 * j : Nat) : Int) > 0
            · rw [if_pos g, hcz g]
            · rw [if_neg g]
          · rw [if_neg e]
            by_cases g : ((7 * j : Nat) : Int) > 0
            · rw [if_pos g, hcz g]
            · rw [if_neg g]
        rw [hall, hfal, if_pos hf]
        by_cases c128 : c < 128
        · rw [if_pos c128, if_pos c128]
          exact ⟨_, _, _, rfl, rfl, rfl, by omega, by omega, rfl⟩
        · rw [if_neg c128, if_neg c128]
          have hj9 : j < 9 := by omega
          obtain ⟨d, rfl⟩ : ∃ i, d = i + 1 := ⟨d - 1, by omega⟩
          have hlt2 : numN n c (7 * j) < 2 ^ (7 * (j + 1)) := by
            have hq : (2 : Int) ^ (7 * (j + 1)) = 128 * 2 ^ (7 * j) := by rw [show 7 * (j + 1) = 7 * j + 7 by omega, Int.pow_add]; rw [Int.mul_comm]; rfl
            have hP : (0 : Int) < 2 ^ (7 * j) := Int.pow_pos (by decide)
            have h3 : c % 128 * 2 ^ (7 * j) ≤ 127 * 2 ^ (7 * j) := Int.mul_le_mul_of_nonneg_right (by omega) (by omega)
            rw [s2, hq]
            omega
          have hge2 : 0 ≤ numN n c (7 * j) := (numN_range n c (7 * j)).1
          have ew : wrap64 (((7 * j : Nat) : Int) + 7) = ((7 * (j + 1) : Nat) : Int) := by rw [w64 (by omega) (by omega)]; omega
          obtain ⟨v, at_, wrong, g1, g2⟩ := num_ref d (j + 1) k (a + 1) B (numN n c (7 * j)) (by omega) (by omega) (by omega) (by omega) hl hu hge2 hlt2
          rw [ew]
          rw [show 7 * j + 7 = 7 * (j + 1) by omega]
          exact ⟨v, at_, wrong, g1, g2⟩
      · have htru : marquetryref13_Reader_number.j1 (k + 1) n ((7 * j : Nat) : Int) c true B ((a + 1 : Nat) : Int) 0 = some (0, ((a + 1 : Nat) : Int), 8) := by
          rw [marquetryref13_Reader_number.j1, if_pos rfl]
          unfold marquetryref13_Reader_fail.f
          rw [if_pos rfl]; rfl
        rw [if_neg hf]
        refine ⟨0, ((a + 1 : Nat) : Int), 8, ?_, ⟨rfl, by decide⟩⟩
        by_cases e : ((7 * j : Nat) : Int) = 63
        · rw [if_pos e]
          by_cases g : c > 1
          · rw [if_pos g]; exact htru
          · rw [if_neg g, if_pos (by omega), show (c == 0) = true from beq_iff_eq.2 (by omega)]; exact htru
        · rw [if_neg e, if_pos (by omega), show (c == 0) = true from beq_iff_eq.2 (by omega)]; exact htru
    · rw [next_nil (by omega) (by omega), Option.bind_some, List.drop_of_length_le (by omega)]
      exact ⟨0, (a : Int), 6, by simp, rfl, by decide⟩
theorem number_ref {k a : Nat} {B : List Int} (hk : 40 ≤ k) (ha : a ≤ B.length) (hl : B.length ≤ 1000000000) (hu : ∀ x ∈ B, 0 ≤ x ∧ x ≤ 255) : ∃ v at_ wrong, marquetryref13_Reader_number.f k B (a : Int) 0 = some (v, at_, wrong) ∧ OutR B id (numS 0 0 (B.drop a)) v at_ wrong :=
  num_ref 9 0 k a B 0 (by omega) (by omega) (by omega) ha hl hu (by omega) (by simp)
theorem numS_val {b : List Int} {v : Int} {r : List Int} (h : numS 0 0 b = .ok (v, r)) : 0 ≤ v ∧ v ≤ 18446744073709551615 := by
  have := numS_range _ _ _ _ _ h; omega
theorem sgn_ref {v : Int} (h0 : 0 ≤ v) (h1 : v ≤ 18446744073709551615) : (if Int.tmod v 2 = 1 then wrap64 (wrap64 (-wrap64 (IntKind.u64.wrap (Int.tdiv v 2))) - 1) else wrap64 (IntKind.u64.wrap (Int.tdiv v 2))) = sgnV v := by
  rw [sgnV_eq h0 h1, tmod_u64 2 h0, u64_tdiv 2 h0 h1 (by decide)]
  by_cases c : v % 2 = 0
  · rw [if_pos c, if_neg (by omega), w64 (by omega) (by omega)]
  · rw [if_neg c, if_pos (by omega), w64 (a := v / 2) (by omega) (by omega), w64 (a := -(v / 2)) (by omega) (by omega), w64 (by omega) (by omega)]
theorem signed_ref {k a : Nat} {B : List Int} (hk : 40 ≤ k) (ha : a ≤ B.length) (hl : B.length ≤ 1000000000) (hu : ∀ x ∈ B, 0 ≤ x ∧ x ≤ 255) : ∃ v at_ wrong, marquetryref13_Reader_signed.f k B (a : Int) 0 = some (v, at_, wrong) ∧ OutR B id (mapS sgnV (numS 0 0 (B.drop a))) v at_ wrong := by
  obtain ⟨v, at_, wrong, h1, h2⟩ := number_ref hk ha hl hu
  unfold marquetryref13_Reader_signed.f
  rw [h1, Option.bind_some]
  cases hr : numS 0 0 (B.drop a) with
  | error x =>
    rw [hr] at h2
    by_cases c : Int.tmod v 2 = 1
    · exact ⟨wrap64 (wrap64 (-wrap64 (IntKind.u64.wrap (Int.tdiv v 2))) - 1), at_, wrong, by simp only []; rw [if_pos c], h2⟩
    · exact ⟨wrap64 (IntKind.u64.wrap (Int.tdiv v 2)), at_, wrong, by simp only []; rw [if_neg c], h2⟩
  | ok p =>
    obtain ⟨y, r⟩ := p
    rw [hr] at h2
    obtain ⟨hv, hs⟩ : v = y ∧ StR B at_ wrong (.ok r) := h2
    subst hv
    have hrg := numS_val hr
    have hsg := sgn_ref hrg.1 hrg.2
    refine ⟨sgnV v, at_, wrong, ?_, rfl, hs⟩
    rw [← hsg]
    simp only []
    by_cases c : Int.tmod v 2 = 1
    · rw [if_pos c, if_pos c]
    · rw [if_neg c, if_neg c]
theorem signed_wrong {k : Nat} {B : List Int} {at_ wrong : Int} (hk : 2 ≤ k) (h : wrong ≠ 0) : ∃ v, marquetryref13_Reader_signed.f k B at_ wrong = some (v, at_, wrong) := by
  unfold marquetryref13_Reader_signed.f
  rw [num_wrong hk h, Option.bind_some]
  exact ⟨wrap64 (IntKind.u64.wrap (Int.tdiv 0 2)), by simp only []; rw [if_neg (by decide)]⟩
end Go.Proofs.Ytbncfhmfohpfbaa.D13
end

section
namespace Go.Proofs.Ytbncfhmfohpfbaa.X
open Go.RowKit Go.Proofs.YtbncfhmfohpfbaaW.PrintWords Go.Proofs.YtbncfhmfohpfbaaW.PrintLast Go.Proofs.YtbncfhmfohpfbaaW.PrintMore
set_option linter.unusedVariables false
set_option linter.unusedSimpArgs false
theorem works_true (w : World) : Calls Try.prog 11 #[] w fun e w' => e = .returned (.bool true) ∧ Below w.heap.size w w' := marquetrylaw13_works.calls 4000 true w (D13.works (by decide))
theorem num_same (x : Int) (w : World) : Calls Try.prog 15 #[.int .i64 x] w fun e w' => e = .returned (.int .i64 x) ∧ Drawn0 w w' := marquetrylaw13_num.calls x x w rfl
def ErrS {α : Type} (res : Except Int (α × List Int)) : Prop := ∀ x, res = .error x → x = 6 ∨ x = 8
theorem ErrS.ok {α : Type} (v : α) (b : List Int) : ErrS (.ok (v, b)) := fun _ h => by cases h
theorem ErrS.e8 {α : Type} : ErrS (.error 8 : Except Int (α × List Int)) := fun _ h => by cases h; exact .inr rfl
theorem ErrS.and {α β : Type} {r : Except Int (α × List Int)} {k : α → List Int → Except Int (β × List Int)} (h : ErrS r) (hk : ∀ v b, ErrS (k v b)) : ErrS (andS r k) := by
  intro x hx
  cases r with
  | error y => rw [andS_err] at hx; cases hx; exact h _ rfl
  | ok p => exact hk p.1 p.2 x hx
theorem ErrS.map {α β : Type} {f : α → β} {r : Except Int (α × List Int)} (h : ErrS r) : ErrS (mapS f r) := by
  intro x hx
  cases r with
  | error y => simp [mapS] at hx; subst hx; exact h _ rfl
  | ok p => simp [mapS] at hx
end Go.Proofs.Ytbncfhmfohpfbaa.X
end

section
namespace Go.Proofs.Ytbncfhmfohpfbaa.X
open Go.RowKit Go.Proofs.YtbncfhmfohpfbaaW.PrintWords Go.Proofs.YtbncfhmfohpfbaaW.PrintLast Go.Proofs.YtbncfhmfohpfbaaW.PrintMore Go.Proofs.Ytbncfhmfohpfbaa.D13
set_option linter.unusedVariables false
set_option linter.unusedSimpArgs false
def RfI (w0 : World) (g : Nat) (B : List Int) (st : Except Int (List Int)) (W : World) : Prop :=
  ∃ at_ wrong, IsS76 w0 W g B at_ wrong ∧ StR B at_ wrong st ∧ Below w0.heap.size w0 W
def stepR {α : Type} (P : List Int → Except Int (α × List Int)) : Except Int (List Int) → Except Int (α × List Int)
  | .ok r => P r
  | .error x => .error x
def RfO {α : Type} (w0 : World) (g : Nat) (B : List Int) (W : World) (val : Int → Value) (f : α → Int) (res : Except Int (α × List Int)) (e : Ending) (W' : World) : Prop :=
  ∃ v, e = .returned (val v) ∧ KeepBut W W' g none ∧ match res with
    | .ok (y, r) => v = f y ∧ RfI w0 g B (.ok r) W'
    | .error x => RfI w0 g B (.error x) W'
theorem stR_ok {B : List Int} {at_ wrong : Int} {r : List Int} (h : StR B at_ wrong (.ok r)) : wrong = 0 ∧ ∃ a : Nat, at_ = (a : Int) ∧ a ≤ B.length ∧ B.drop a = r := by
  obtain ⟨h1, h2, h3, h4⟩ := h
  exact ⟨h1, at_.toNat, by omega, by omega, h4⟩
theorem rf_out {w0 W W' : World} {g : Nat} {B : List Int} {val : Int → Value} {res : Except Int (Int × List Int)} {v at_ wrong : Int} (ho : OutR B id res v at_ wrong) (hI : IsS76 w0 W' g B at_ wrong) (hB : Below w0.heap.size w0 W') (hK : KeepBut W W' g none) : RfO w0 g B W val id res (.returned (val v)) W' := by
  refine ⟨v, rfl, hK, ?_⟩
  cases res with
  | error x => exact ⟨at_, wrong, hI, ho, hB⟩
  | ok p => exact ⟨ho.1, at_, wrong, hI, ho.2, hB⟩
theorem rf_number (w0 : World) (g : Nat) (B : List Int) (st : Except Int (List Int)) (W : World) (hl : B.length ≤ 1000000000) (hu : ∀ x ∈ B, 0 ≤ x ∧ x ≤ 255) (h : RfI w0 g B st W) :
    Calls Try.prog 41 #[.pointer (some ⟨g, 0, none⟩)] W (RfO w0 g B W (Value.int .u64) id (stepR (numS 0 0) st)) := by
  obtain ⟨at_, wrong, hI, hs, hB⟩ := h
  cases st with
  | error x =>
    obtain ⟨rfl, hx⟩ := hs
    refine (marquetryref13_Reader_number.calls 40 g B at_ wrong _ _ _ w0 W hI hB (num_wrong (by decide) hx)).mono ?_
    rintro e W' ⟨rfl, hI', hB', hK⟩
    exact ⟨0, rfl, hK, at_, wrong, hI', ⟨rfl, hx⟩, hB'⟩
  | ok r =>
    obtain ⟨rfl, a, rfl, ha, rfl⟩ := stR_ok hs
    obtain ⟨v, at2, wrong2, h1, h2⟩ := number_ref (k := 40) (by decide) ha hl hu
    refine (marquetryref13_Reader_number.calls 40 g B a 0 v at2 wrong2 w0 W hI hB h1).mono ?_
    rintro e W' ⟨rfl, hI', hB', hK⟩
    exact rf_out h2 hI' hB' hK
theorem rf_signed (w0 : World) (g : Nat) (B : List Int) (st : Except Int (List Int)) (W : World) (hl : B.length ≤ 1000000000) (hu : ∀ x ∈ B, 0 ≤ x ∧ x ≤ 255) (h : RfI w0 g B st W) :
    Calls Try.prog 43 #[.pointer (some ⟨g, 0, none⟩)] W (RfO w0 g B W (Value.int .i64) id (stepR (fun b => mapS sgnV (numS 0 0 b)) st)) := by
  obtain ⟨at_, wrong, hI, hs, hB⟩ := h
  cases st with
  | error x =>
    obtain ⟨rfl, hx⟩ := hs
    obtain ⟨v, hv⟩ := signed_wrong (k := 40) (B := B) (at_ := at_) (by decide) hx
    refine (marquetryref13_Reader_signed.calls 40 g B at_ wrong _ _ _ w0 W hI hB hv).mono ?_
    rintro e W' ⟨rfl, hI', hB', hK⟩
    exact ⟨v, rfl, hK, at_, wrong, hI', ⟨rfl, hx⟩, hB'⟩
  | ok r =>
    obtain ⟨rfl, a, rfl, ha, rfl⟩ := stR_ok hs
    obtain ⟨v, at2, wrong2, h1, h2⟩ := signed_ref (k := 40) (by decide) ha hl hu
    refine (marquetryref13_Reader_signed.calls 40 g B a 0 v at2 wrong2 w0 W hI hB h1).mono ?_
    rintro e W' ⟨rfl, hI', hB', hK⟩
    exact rf_out h2 hI' hB' hK
def mustR (b : Bool) : Except Int (List Int) → Except Int (List Int)
  | .ok r => if b = true then .ok r else .error 8
  | .error x => .error x
theorem rf_must (w0 : World) (g : Nat) (B : List Int) (st : Except Int (List Int)) (b : Bool) (W : World) (h : RfI w0 g B st W) :
    Calls Try.prog 42 #[.pointer (some ⟨g, 0, none⟩), .bool b] W fun e W' => e = .returned (.tuple #[]) ∧ KeepBut W W' g none ∧ RfI w0 g B (mustR b st) W' := by
  obtain ⟨at_, wrong, hI, hs, hB⟩ := h
  have hm : marquetryref13_Reader_must.f B at_ wrong b = some (at_, if b = true then wrong else if wrong = 0 then 8 else wrong) := by
    unfold marquetryref13_Reader_must.f marquetryref13_Reader_fail.f
    cases b with
    | true => rfl
    | false =>
      by_cases c : wrong = 0
      · subst c; rfl
      · simp [c]
  refine (marquetryref13_Reader_must.calls g B at_ wrong b _ _ w0 W hI hB hm).mono ?_
  rintro e W' ⟨rfl, hI', hB', hK⟩
  refine ⟨rfl, hK, at_, _, hI', ?_, hB'⟩
  cases st with
  | error x =>
    obtain ⟨rfl, hx⟩ := hs
    cases b with
    | true => exact ⟨rfl, hx⟩
    | false => exact ⟨by rw [if_neg (by decide), if_neg hx], hx⟩
  | ok r =>
    obtain ⟨rfl, h2, h3, h4⟩ := hs
    cases b with
    | true => exact ⟨rfl, h2, h3, h4⟩
    | false => exact ⟨rfl, by decide⟩
end Go.Proofs.Ytbncfhmfohpfbaa.X
end

section
namespace Go.Proofs.Ytbncfhmfohpfbaa.D13
set_option linter.unusedVariables false
set_option linter.unusedSimpArgs false
open Go.RowKit Go.Proofs.Ytbncfhmfohpfbaa.X Go.Proofs.YtbncfhmfohpfbaaW.PrintWords Go.Proofs.YtbncfhmfohpfbaaW.PrintLast Go.Proofs.YtbncfhmfohpfbaaW.PrintMore Go.Proofs.Ytbncfhmfohpfbaa.Bx Go.Proofs.Ytbncfhmfohpfbaa.Nx Go.Proofs.Ytbncfhmfohpfbaa.Px
theorem add_halves {a b u v : Int} (ha : 0 ≤ u) (hu : u < 4294967296) (hv : 0 ≤ v) (hv1 : v < 4294967296) (h : (u * 4294967296 + v - (a + b)) % 18446744073709551616 = 0) : marquetryref13_whole.f u v = some (wrap64 (a + b)) := by
  rw [ref_whole ha hu hv hv1]
  congr 1
  unfold wrap64
  omega
theorem ref_add {a b : Int} (ha : inI a) (hb : inI b) : marquetryref13_Add.f a b = some (wrap64 (a + b)) := by
  unfold marquetryref13_Add.f
  rw [ref_halves ha, Option.bind_some, ref_halves hb, Option.bind_some]
  simp only []
  obtain ⟨A, hA⟩ : ∃ A, A = a / 4294967296 := ⟨_, rfl⟩
  obtain ⟨B, hB⟩ : ∃ B, B = b / 4294967296 := ⟨_, rfl⟩
  obtain ⟨x, hx⟩ : ∃ x, x = a % 4294967296 := ⟨_, rfl⟩
  obtain ⟨y, hy⟩ : ∃ y, y = b % 4294967296 := ⟨_, rfl⟩
  have ea : a = A * 4294967296 + x := by omega
  have eb : b = B * 4294967296 + y := by omega
  have rA : -2147483648 ≤ A ∧ A < 2147483648 := by obtain ⟨h1, h2⟩ := ha; omega
  have rB : -2147483648 ≤ B ∧ B < 2147483648 := by obtain ⟨h1, h2⟩ := hb; omega
  have rx : 0 ≤ x ∧ x < 4294967296 := by omega
  have ry : 0 ≤ y ∧ y < 4294967296 := by omega
  rw [← hA, ← hB, ← hx, ← hy]
  clear hA hB hx hy ha hb
  obtain ⟨P, hP⟩ : ∃ P, P = A % 4294967296 := ⟨_, rfl⟩
  obtain ⟨Q, hQ⟩ : ∃ Q, Q = B % 4294967296 := ⟨_, rfl⟩
  have rP : 0 ≤ P ∧ P < 4294967296 := by omega
  have rQ : 0 ≤ Q ∧ Q < 4294967296 := by omega
  rw [← hP, ← hQ]
  have w1 : wrap64 (x + y) = x + y := w64 (by omega) (by omega)
  have w2 : wrap64 (P + Q) = P + Q := w64 (by omega) (by omega)
  have w3 : wrap64 (P + Q + 1) = P + Q + 1 := w64 (by omega) (by omega)
  have w4 : wrap64 (P + Q + 1 - 4294967296) = P + Q + 1 - 4294967296 := w64 (by omega) (by omega)
  have w5 : wrap64 (x + y - 4294967296) = x + y - 4294967296 := w64 (by omega) (by omega)
  have w6 : wrap64 (P + Q - 4294967296) = P + Q - 4294967296 := w64 (by omega) (by omega)
  rw [w1, w2, w3, w4, w5, w6, ea, eb]
  clear w1 w2 w3 w4 w5 w6 ea eb
  by_cases c : x + y ≥ 4294967296
  · rw [if_pos c]
    by_cases c2 : P + Q + 1 ≥ 4294967296
    · rw [if_pos c2, add_halves (a := A * 4294967296 + x) (b := B * 4294967296 + y) (by omega) (by omega) (by omega) (by omega) (by omega)]; rfl
    · rw [if_neg c2, add_halves (a := A * 4294967296 + x) (b := B * 4294967296 + y) (by omega) (by omega) (by omega) (by omega) (by omega)]; rfl
  · rw [if_neg c]
    by_cases c2 : P + Q ≥ 4294967296
    · rw [if_pos c2, add_halves (a := A * 4294967296 + x) (b := B * 4294967296 + y) (by omega) (by omega) (by omega) (by omega) (by omega)]; rfl
    · rw [if_neg c2, add_halves (a := A * 4294967296 + x) (b := B * 4294967296 + y) (by omega) (by omega) (by omega) (by omega) (by omega)]; rfl
theorem or_in (x y : Int) : inI (bits .or .i64 x y) := by
  show inI (IntKind.i64.wrap _)
  rw [IntKind.wrap_i64]
  unfold inI
  omega
theorem pkF_in (bs : List Int) (s : Nat) : ∀ k, inI (pkF bs s k)
  | 0 => ⟨by show (-9223372036854775808 : Int) ≤ 0; omega, by show (0 : Int) ≤ 9223372036854775807; omega⟩
  | k + 1 => or_in _ _
theorem packedV_in (bs : List Int) (w : Nat) : ∀ x ∈ packedV bs w, inI x := by
  intro x hx
  obtain ⟨i, _, rfl⟩ := List.mem_map.1 hx
  exact pkF_in _ _ _
theorem or_zero_i64 {x : Int} (h : inI x) : bits .or .i64 x 0 = x := by
  show IntKind.i64.wrap ((BitVec.ofInt 64 x ||| BitVec.ofInt 64 0).toNat : Int) = x
  have e : BitVec.ofInt 64 0 = 0#64 := by decide
  rw [e, BitVec.or_zero, toNat64, IntKind.wrap_i64]
  obtain ⟨h1, h2⟩ := h
  omega
theorem pk_bit {bs : List Int} (hu : ∀ x ∈ bs, 0 ≤ x ∧ x ≤ 255) (j : Nat) : bits .and .u8 (bs.getD (j / 8) 0 / 2 ^ (j % 8)) 1 = pkBit bs j ∧ (pkBit bs j = 0 ∨ pkBit bs j = 1) := by
  have h2 := bt_range bs j
  refine ⟨?_, by rw [pkBit_eq hu]; exact h2⟩
  have := shr_range (t := j % 8) (getD_u8 hu (j / 8))
  rw [pkBit_eq hu, and_one_u8 _ this.1 this.2]
  rfl
theorem pk_one {bs : List Int} {s k : Nat} (h : pkBit bs (s + k) = 1) : pkF bs s (k + 1) = bits .or .i64 (pkF bs s k) (wrap64 (1 * 2 ^ k)) := by rw [pkF, h]
theorem pk_none {bs : List Int} {s k : Nat} (h : pkBit bs (s + k) = 0) : pkF bs s (k + 1) = pkF bs s k := by
  rw [pkF, h, Int.zero_mul, show wrap64 0 = 0 from w64 (by omega) (by omega), or_zero_i64 (pkF_in _ _ _)]
end Go.Proofs.Ytbncfhmfohpfbaa.D13
end

section
namespace Go.Proofs.Ytbncfhmfohpfbaa.X
open Go.RowKit Go.Proofs.YtbncfhmfohpfbaaW.PrintWords Go.Proofs.YtbncfhmfohpfbaaW.PrintLast Go.Proofs.YtbncfhmfohpfbaaW.PrintMore Go.Proofs.Ytbncfhmfohpfbaa.D13
set_option linter.unusedVariables false
set_option linter.unusedSimpArgs false
def RpO (w0 : World) (g : Nat) (B : List Int) (W : World) (res : Except Int (List Int × List Int)) (e : Ending) (W' : World) : Prop :=
  ∃ (ga : Nat) (xs : List Int), e = .returned (.slice (some ⟨ga, 0, none⟩) 32 32) ∧ KeepBut W W' g none ∧ W.heap.size ≤ ga ∧ xs.length = 32 ∧ (∀ x ∈ xs, D13.inI x) ∧ W'.heap[ga]? = some (.cells (xs.map (Value.int .i64)).toArray 2 (0, 0)) ∧ match res with
    | .ok (ys, r) => xs = ys ∧ RfI w0 g B (.ok r) W'
    | .error x => RfI w0 g B (.error x) W'
theorem meas_up {k w : Nat} (h : k < w) : w - (intOf (.int .i64 ((k : Int) + 1))).toNat < w - (intOf (.int .i64 (k : Int))).toNat := by simp [intOf]; omega
theorem zero32_in : ∀ x ∈ zeros32, D13.inI x := by
  intro x hx
  obtain ⟨_, rfl⟩ := List.mem_replicate.1 hx
  exact ⟨by omega, by omega⟩
set_option maxRecDepth 100000 in
set_option maxHeartbeats 4000000 in
theorem rf_packed_wrong (w0 : World) (g : Nat) (B : List Int) (x : Int) (w : Int) (W : World) (h : RfI w0 g B (.error x) W) :
    Calls Try.prog 45 #[.pointer (some ⟨g, 0, none⟩), .int .i64 w] W (RpO w0 g B W (.error x)) := by
  obtain ⟨at_, wrong, ⟨A0, c0, hb, hg, hC⟩, ⟨rfl, hx⟩, hB⟩ := h
  have c1 := (blk_cell hb 2).trans (show _ = some (.int .i64 wrong) from rfl)
  have q1 : (wrong == 0) = false := beq_eq_false_iff_ne.2 hx
  have HB := Aside0.mk hb
  have HBe := Aside0.mk hB
  have HX := Aside0.mk hx
  have HG := Aside0.mk (And.intro hg hC)
  clear hb hx hg hC hB
  go_enter Try.func45, Try.ntmps45
  go_wp2
  have hmk := print_makeZ
  have c2 : ∀ (n : Nat) (o : Obj), ((W.drewN n).alloc o).cell? ⟨g, 2, none⟩ = some (.int .i64 wrong) := fun n o => (blk_cell (blk_alloc (show (W.drewN n).heap[g]? = _ from HB.out) o) 2).trans rfl
  go_quiet (fail)
  go_wp2
  go_ret
  refine ⟨W.heap.size, zeros32, rfl, KeepBut.of_below (below_alloc (pw_below_drewN (Below.refl _ _) nq) _) g none, Nat.le_refl _, rfl, zero32_in, blk_new _ _, at_, wrong, ⟨A0, c0, blk_alloc (show (W.drewN nq).heap[g]? = _ from HB.out) _, HG.out.1, HG.out.2⟩, ⟨rfl, HX.out⟩, below_alloc (pw_below_drewN HBe.out nq) _⟩
set_option maxRecDepth 100000 in
set_option maxHeartbeats 4000000 in
theorem rf_packed_short (w0 : World) (g : Nat) (B r : List Int) (w : Nat) (W : World) (hl : B.length ≤ 1000000000) (hw : w ≤ 64) (hs : r.length < 4 * w) (h : RfI w0 g B (.ok r) W) :
    Calls Try.prog 45 #[.pointer (some ⟨g, 0, none⟩), .int .i64 (w : Int)] W (RpO w0 g B W (.error 6)) := by
  obtain ⟨at_, wrong, hI, hst, hB⟩ := h
  obtain ⟨rfl, a, rfl, ha, rfl⟩ := stR_ok hst
  obtain ⟨A0, c0, hb, hg, hC⟩ := id hI
  have c1 := (blk_cell hb 2).trans (show _ = some (.int .i64 0) from rfl)
  have c3 := (blk_cell hb 1).trans (show _ = some (.int .i64 (a : Int)) from rfl)
  have c4 := (blk_cell hb 0).trans (show _ = some (.slice A0 B.length c0) from rfl)
  have e1 : IntKind.i64.wrap (4 * (w : Int)) = 4 * (w : Int) := IntWalk.i64_in _ (by omega)
  have e2 : IntKind.i64.wrap ((B.length : Int) - (a : Int)) = (B.length : Int) - (a : Int) := IntWalk.i64_in _ (by omega)
  have q2 : decide (4 * (w : Int) > (B.length : Int) - (a : Int)) = true := decide_eq_true (by rw [List.length_drop] at hs; omega)
  have HF := Aside0.mk (fun (Wz : World) (hI : IsS76 w0 Wz g B a 0) (hB : Below w0.heap.size w0 Wz) => marquetryref13_Reader_fail.calls g B a 0 6 a 6 w0 Wz hI hB rfl)
  have HI := Aside0.mk hI
  have HBe := Aside0.mk hB
  clear hb hg hC hB hI hst hs hl ha
  go_enter Try.func45, Try.ntmps45
  go_wp2
  go_quiet (fail)
  go_wp2_with fail
  refine calls_named fun Wa hWa => ?_
  have hIa : IsS76 w0 Wa g B a 0 := by rw [hWa]; exact IsS76.drewN HI.out _
  have hBa : Below w0.heap.size w0 Wa := by rw [hWa]; exact pw_below_drewN HBe.out _
  have HBa := Aside0.mk (show Below W.heap.size W Wa from (by rw [hWa]; exact pw_below_drewN (Below.refl _ _) _))
  clear hWa
  refine (HF.out Wa hIa hBa).mono ?_
  rintro e W1 ⟨rfl, hI1, hB1, hK1⟩
  clear c1 c3 c4 hIa hBa q2 e1 e2
  obtain ⟨A1, c1, hb, hg, hC⟩ := hI1
  have hc := (blk_cell hb 2).trans (show _ = some (.int .i64 6) from rfl)
  have HB := Aside0.mk hb
  have HBe1 := Aside0.mk hB1
  have HG := Aside0.mk (And.intro hg hC)
  have HK := Aside0.mk (show KeepBut W W1 g none from KeepBut.trans (KeepBut.of_below HBa.out g none) hK1 (.inl rfl))
  clear hb hg hC hB1 hK1
  have hmk := print_makeZ
  have c2 : ∀ (o : Obj), (W1.alloc o).cell? ⟨g, 2, none⟩ = some (.int .i64 6) := fun o => (blk_cell (blk_alloc HB.out o) 2).trans rfl
  go_wp2
  go_ret
  refine ⟨W1.heap.size, zeros32, rfl, KeepBut.trans HK.out (KeepBut.of_below (below_alloc (Below.refl _ _) _) g none) (.inl rfl), HK.out.1, rfl, zero32_in, blk_new _ _, a, 6, ⟨A1, c1, blk_alloc HB.out _, HG.out.1, HG.out.2⟩, ⟨rfl, by decide⟩, below_alloc HBe1.out _⟩
set_option maxRecDepth 100000 in
set_option maxHeartbeats 8000000 in
theorem rf_packed_ok (w0 : World) (g : Nat) (B r : List Int) (w : Nat) (W : World) (hl : B.length ≤ 1000000000) (hu : ∀ x ∈ B, 0 ≤ x ∧ x ≤ 255) (hw : w ≤ 64) (hs : 4 * w ≤ r.length) (h : RfI w0 g B (.ok r) W) :
    Calls Try.prog 45 #[.pointer (some ⟨g, 0, none⟩), .int .i64 (w : Int)] W (RpO w0 g B W (.ok (packedV (r.take (4 * w)) w, r.drop (4 * w)))) := by
  obtain ⟨at_, wrong, hI, hst, hB⟩ := h
  obtain ⟨rfl, a, rfl, ha, rfl⟩ := stR_ok hst
  obtain ⟨A0, c0, hb, hg, hC⟩ := hI
  rw [List.length_drop] at hs
  have HAW := Aside0.mk (show a + 4 * w ≤ B.length ∧ B.length ≤ 1000000000 from ⟨by omega, hl⟩)
  obtain ⟨bs, hbs⟩ : ∃ bs, bs = (B.drop a).take (4 * w) := ⟨_, rfl⟩
  have hbu : ∀ x ∈ bs, 0 ≤ x ∧ x ≤ 255 := fun x hx => hu x (List.mem_of_mem_drop (List.mem_of_mem_take (by rw [← hbs]; exact hx)))
  have hbr : ∀ q, q < 4 * w → bs.getD q 0 = rd B ((a + q : Nat) : Int) := fun q hq => by
    rw [hbs, List.getD_eq_getElem?_getD, List.getElem?_take_of_lt hq, List.getElem?_drop]
    rw [← List.getD_eq_getElem?_getD]; rfl
  rw [← hbs]
  have HBU := Aside0.mk hbu
  have HBR := Aside0.mk hbr
  have c1 := (blk_cell hb 2).trans (show _ = some (.int .i64 0) from rfl)
  have c3 := (blk_cell hb 1).trans (show _ = some (.int .i64 (a : Int)) from rfl)
  have c4 := (blk_cell hb 0).trans (show _ = some (.slice A0 B.length c0) from rfl)
  have e1 : IntKind.i64.wrap (4 * (w : Int)) = 4 * (w : Int) := IntWalk.i64_in _ (by omega)
  have e2 : IntKind.i64.wrap ((B.length : Int) - (a : Int)) = (B.length : Int) - (a : Int) := IntWalk.i64_in _ (by omega)
  have q2 : decide (4 * (w : Int) > (B.length : Int) - (a : Int)) = false := decide_eq_false (by omega)
  have HB := Aside0.mk hb
  have HBe := Aside0.mk hB
  have HG := Aside0.mk (And.intro hg hC)
  have HW := Aside0.mk hw
  obtain ⟨rest, hrest⟩ : ∃ rest, rest = (B.drop a).drop (4 * w) := ⟨_, rfl⟩
  have HREST := Aside0.mk (show B.drop (a + 4 * w) = rest from (by rw [hrest, List.drop_drop]))
  rw [← hrest]
  clear hg hC hB hst hs hl ha hu hw hrest hbs hbu hbr hb
  go_enter Try.func45, Try.ntmps45
  go_wp2
  have hmk := print_makeZ
  have c2 : ∀ (n : Nat) (o : Obj), ((W.drewN n).alloc o).cell? ⟨g, 2, none⟩ = some (.int .i64 0) := fun n o => (blk_cell (blk_alloc (show (W.drewN n).heap[g]? = _ from HB.out) o) 2).trans rfl
  go_quiet (fail)
  go_wp2
  refine wp_named fun W2 hW2 => ?_
  obtain ⟨ga, hga⟩ : ∃ ga, ga = W.heap.size := ⟨_, rfl⟩
  have HGA := Aside0.mk hga
  have HA2 := Aside0.mk (show W2.heap[ga]? = some (.cells ((pkAt bs w 0).map (Value.int .i64)).toArray 2 (0, 0)) from (by rw [hW2, hga]; exact blk_new (W.drewN nq) _))
  have HB2 := Aside0.mk (show Below W.heap.size W W2 from (by rw [hW2]; exact below_alloc (pw_below_drewN (Below.refl _ _) nq) _))
  rw [← hga]
  clear hW2 c1 c2 c3 c4 q2 hmk hga e2
  go_loopw [6] (fun v6 wr => ∃ i : Nat, v6 = .int .i64 i ∧ i ≤ 32 ∧ Aside0 (wr.heap[ga]? = some (.cells ((pkAt bs w i).map (Value.int .i64)).toArray 2 (0, 0))) ∧ Aside0 (Below W.heap.size W wr)) (fun v6 _ => 32 - (intOf v6).toNat)
  case atStart => exact ⟨0, rfl, by omega, HA2, HB2⟩
  case round =>
    clear HA2 HB2
    obtain ⟨i, rfl, hi, HA, HBW⟩ := hrel
    by_cases hi2 : i < 32
    · have q1 : decide ((i : Int) < 32) = true := decide_eq_true (by omega)
      have HAx := Aside0.mk (show wr.heap[ga]? = some (.cells ((pkRow bs w i (pkF bs (i * w) 0)).map (Value.int .i64)).toArray 2 (0, 0)) from (by have := HA.out; rwa [pkAt, if_pos hi2] at this))
      clear HA
      go_wp2
      obtain ⟨wo, hwo⟩ : ∃ wo, wo = wr := ⟨_, rfl⟩
      rw [← hwo] at HAx HBW ⊢
      clear hwo
      go_loopw [7] (fun v7 wr => ∃ k : Nat, v7 = .int .i64 k ∧ k ≤ w ∧ Aside0 (wr.heap[ga]? = some (.cells ((pkRow bs w i (pkF bs (i * w) k)).map (Value.int .i64)).toArray 2 (0, 0))) ∧ Aside0 (Below W.heap.size W wr)) (fun v7 _ => w - (intOf v7).toNat)
      case atStart => exact ⟨0, rfl, by omega, HAx, HBW⟩
      case round =>
        clear HAx HBW
        obtain ⟨k, rfl, hk, HA, HBW⟩ := hrel
        by_cases hk2 : k < w
        · have q2 : decide ((k : Int) < (w : Int)) = true := decide_eq_true (by omega)
          obtain ⟨iw, hiw⟩ : ∃ iw, iw = i * w := ⟨_, rfl⟩
          obtain ⟨J, hJ⟩ : ∃ J, J = i * w + k := ⟨_, rfl⟩
          have hiw2 : iw ≤ 31 * w := by rw [hiw]; exact Nat.mul_le_mul_right _ (by omega)
          have hJ2 : J < 8 * (4 * w) := by omega
          have hw := HW.out
          have haw := HAW.out
          obtain ⟨q, hq⟩ : ∃ q, q = J / 8 := ⟨_, rfl⟩
          obtain ⟨t, ht⟩ : ∃ t, t = J % 8 := ⟨_, rfl⟩
          obtain ⟨p, hp⟩ : ∃ p, p = a + q := ⟨_, rfl⟩
          obtain ⟨ad, had, hcell⟩ := c_at (Kd.C_below HG.out.2 (HBe.out.trans (HBW.out.mono HBe.out.size))) ((p : Nat) : Int) (by omega) (by omega)
          subst had
          obtain ⟨y, hy⟩ : ∃ y, y = rd B (p : Int) := ⟨_, rfl⟩
          rw [← hy, show ((p : Int)).toNat = p from rfl] at hcell
          have hbt := pk_bit HBU.out J
          rw [← hq, ← ht, HBR.out q (by omega), ← hp, ← hy] at hbt
          have f1 : IntKind.i64.wrap ((i : Int) * (w : Int)) = (iw : Int) := by rw [show (i : Int) * (w : Int) = (iw : Int) by rw [hiw]; omega]; exact IntWalk.i64_in _ (by omega)
          have f2 : IntKind.i64.wrap ((iw : Int) + (k : Int)) = (J : Int) := by rw [show (iw : Int) + (k : Int) = (J : Int) by omega]; exact IntWalk.i64_in _ (by omega)
          have f3 : Int.tdiv (J : Int) 8 = (q : Int) := by rw [Int.tdiv_eq_ediv_of_nonneg (by omega)]; omega
          have f4 : Int.tmod (J : Int) 8 = (t : Int) := by rw [Int.tmod_eq_emod_of_nonneg (by omega)]; omega
          have f3' : IntKind.i64.wrap (q : Int) = (q : Int) := IntWalk.i64_in _ (by omega)
          have f4' : IntKind.i64.wrap (t : Int) = (t : Int) := IntWalk.i64_in _ (by omega)
          have f5 : IntKind.i64.wrap ((a : Int) + (q : Int)) = (p : Int) := by rw [show (a : Int) + (q : Int) = (p : Int) by omega]; exact IntWalk.i64_in _ (by omega)
          have f6 : (0 : Int) ≤ (p : Int) := by omega
          have f7 : (p : Int) < (B.length : Int) := by omega
          have f8 : (0 : Int) ≤ (t : Int) := by omega
          have f9 : ((t : Int)).toNat = t := rfl
          have f10 : ((p : Int)).toNat = p := rfl
          have f17 : min t 8 = t := by omega
          have hb : wr.heap[g]? = _ := (HBW.out.block g (blk_lt HB.out)).trans HB.out
          have d0 := (blk_cell hb 0).trans (show _ = some (.slice (some ad) B.length c0) from rfl)
          have d1 := (blk_cell hb 1).trans (show _ = some (.int .i64 (a : Int)) from rfl)
          have HJ := Aside0.mk (And.intro hiw hJ)
          have Hk := Aside0.mk hk2
          have Hi := Aside0.mk hi2
          rcases hbt.2 with hz | hz
          · have q5 : (bits .and .u8 (y / 2 ^ t) 1 == 1) = false := by rw [hbt.1, hz]; decide
            have HZ := Aside0.mk hz
            have f18 : wrap64 ((k : Int) + 1) = (k : Int) + 1 := Bx.w64 (by omega) (by omega)
            clear hz hbt hy hp hq ht hJ hiw hiw2 hJ2 hw haw hb hi2 hk hi
            go_wp2
            go_quiet (fail)
            go_wp2
            go_roundw
            case rel =>
              refine ⟨k + 1, by go_num, Hk.out, ⟨?_⟩, ⟨?_⟩⟩
              · rw [pk_none (by rw [← HJ.out.2]; exact HZ.out)]; exact HA.out
              · exact pw_below_drewN HBW.out _
            case measure => first | exact meas_up Hk.out | (rw [f18]; exact meas_up Hk.out)
          · have q5 : (bits .and .u8 (y / 2 ^ t) 1 == 1) = true := by rw [hbt.1, hz]; decide
            have HZ := Aside0.mk hz
            have cA : wr.cell? ⟨ga, i, none⟩ = some (.int .i64 (pkF bs (i * w) k)) := by
              rw [blk_cell HA.out i]
              simp [pkRow_at bs w i _ hi2]
            have fA : wr.frozen? ⟨ga, i, none⟩ = false := blk_frozen HA.out i
            obtain ⟨x, hx⟩ : ∃ x, x = pkF bs (i * w) k := ⟨_, rfl⟩
            rw [← hx] at cA
            have HX := Aside0.mk hx
            have f11 : (0 : Int) ≤ (i : Int) := by omega
            have f12 : (i : Int) < 32 := by omega
            have f13 : ((i : Int)).toNat = i := rfl
            have f14 : (0 : Int) ≤ (k : Int) := by omega
            have f15 : ((k : Int)).toNat = k := rfl
            have f16 : min k 64 = k := by omega
            clear hz hbt hy hp hq ht hJ hiw hiw2 hJ2 hw haw hb hx hi2 hk hi
            go_wp2
            go_quiet (fail)
            go_wp2
            refine region_tail 10 (by kernel_rfl) (by kernel_rfl) (fun w3 hw3 => ?_)
            simp only [List.take_succ_cons, List.take_zero, List.drop_succ_cons, List.drop_zero]
            have c1 : w3.cell? ⟨ga, i, none⟩ = some (.int .i64 x) := by rw [hw3]; exact cA
            have c3 : w3.frozen? ⟨ga, i, none⟩ = false := by rw [hw3]; exact fA
            have HA3 := Aside0.mk (show w3.heap[ga]? = some (.cells ((pkRow bs w i x).map (Value.int .i64)).toArray 2 (0, 0)) from (by rw [hw3, HX.out]; exact HA.out))
            have HB3 := Aside0.mk (show Below W.heap.size W w3 from (by rw [hw3]; exact below_drew1 (pw_below_drewN HBW.out _)))
            clear hw3 HA HBW cA fA hcell d0 d1
            repeat still_step
            refine wpStill_nil ?_
            go_wp2
            go_roundw
            case rel =>
              have hval : bits .or .i64 x (wrap64 (2 ^ k)) = pkF bs (i * w) (k + 1) := by
                rw [pk_one (by rw [← HJ.out.2]; exact HZ.out), ← HX.out, Int.one_mul]
              rw [hval]
              refine ⟨k + 1, by go_num, Hk.out, ⟨?_⟩, ⟨?_⟩⟩
              · have := blk_set HA3.out i (.int .i64 (pkF bs (i * w) (k + 1)))
                rw [this]
                congr 2
                rw [← pkRow_set bs w i x (pkF bs (i * w) (k + 1))]
                simp [List.map_set]
              · exact Below.setCell HB3.out (by have := HGA.out; simp only []; omega) _
            case measure => first | exact meas_up Hk.out | (rw [f18]; exact meas_up Hk.out)
        · have q2 : decide ((k : Int) < (w : Int)) = false := decide_eq_false (by omega)
          obtain rfl : k = w := by omega
          go_wp2
          go_roundw
          case rel =>
            refine ⟨i + 1, by go_num, by omega, ⟨?_⟩, HBW⟩
            have h := HA.out
            unfold pkAt
            by_cases hl : i + 1 < 32
            · rw [if_pos hl]
              rw [pkRow_next bs k i (by omega)] at h
              exact h
            · rw [if_neg hl]
              obtain rfl : i = 31 := by omega
              rw [pkRow_last] at h
              exact h
          case measure => simp [intOf]; omega
    · obtain rfl : i = 32 := by omega
      have HA2 := Aside0.mk (show wr.heap[ga]? = some (.cells ((packedV bs w).map (Value.int .i64)).toArray 2 (0, 0)) from HA.out)
      clear HA
      have hb : wr.heap[g]? = _ := (HBW.out.block g (blk_lt HB.out)).trans HB.out
      have d1 := (blk_cell hb 1).trans (show _ = some (.int .i64 (a : Int)) from rfl)
      have d2 : wr.frozen? ⟨g, 1, none⟩ = false := blk_frozen hb 1
      have e3 : IntKind.i64.wrap ((a : Int) + 4 * (w : Int)) = ((a + 4 * w : Nat) : Int) := by
        have := HAW.out
        rw [show (a : Int) + 4 * (w : Int) = ((a + 4 * w : Nat) : Int) by omega]
        exact IntWalk.i64_in _ (by omega)
      have HBg := Aside0.mk hb
      clear hb
      go_wp2
      go_ret
      refine ⟨ga, packedV bs w, rfl, KeepBut.set_ (KeepBut.of_below HBW.out g none) _ _, by rw [HGA.out]; exact Nat.le_refl _, packedV_length _ _, packedV_in _ _, blk_far HA2.out (by have := blk_lt HB.out; have := HGA.out; simp only []; omega) _, rfl, ((a + 4 * w : Nat) : Int), 0, ⟨A0, c0, by simpa using blk_set HBg.out 1 (.int .i64 ((a + 4 * w : Nat) : Int)), HG.out.1, HG.out.2⟩, ⟨rfl, by omega, by have := HAW.out; omega, ?_⟩, ?_⟩
      · rw [show (((a + 4 * w : Nat) : Int)).toNat = a + 4 * w from rfl]; exact HREST.out
      · exact Below.setCell (HBe.out.trans (HBW.out.mono HBe.out.size)) (by simpa using HG.out.1) _
theorem rf_packed (w0 : World) (g : Nat) (B : List Int) (st : Except Int (List Int)) (w : Int) (W : World) (hl : B.length ≤ 1000000000) (hu : ∀ x ∈ B, 0 ≤ x ∧ x ≤ 255) (hw : (∃ r, st = .ok r) → 0 ≤ w ∧ w ≤ 64) (h : RfI w0 g B st W) :
    Calls Try.prog 45 #[.pointer (some ⟨g, 0, none⟩), .int .i64 w] W (RpO w0 g B W (stepR (packedS w.toNat) st)) := by
  cases st with
  | error x => exact rf_packed_wrong w0 g B x w W h
  | ok r =>
    have hww := hw ⟨r, rfl⟩
    obtain ⟨n, rfl⟩ : ∃ n : Nat, w = (n : Int) := ⟨w.toNat, by omega⟩
    show Calls _ _ _ _ (RpO w0 g B W (packedS n r))
    unfold packedS
    by_cases c : 4 * n ≤ r.length
    · rw [if_pos c]; exact rf_packed_ok w0 g B r n W hl hu (by omega) c h
    · rw [if_neg c]; exact rf_packed_short w0 g B r n W hl (by omega) (by omega) h
end Go.Proofs.Ytbncfhmfohpfbaa.X
end

section
namespace Go.Proofs.Ytbncfhmfohpfbaa.D13
set_option linter.unusedVariables false
set_option linter.unusedSimpArgs false
open Go.RowKit Go.Proofs.Ytbncfhmfohpfbaa.X Go.Proofs.YtbncfhmfohpfbaaW.PrintWords Go.Proofs.YtbncfhmfohpfbaaW.PrintLast Go.Proofs.YtbncfhmfohpfbaaW.PrintMore Go.Proofs.Ytbncfhmfohpfbaa.Bx Go.Proofs.Ytbncfhmfohpfbaa.Nx Go.Proofs.Ytbncfhmfohpfbaa.Px
theorem mn_min (a b : Int) : mn a b = min a b := by unfold mn; (repeat' split) <;> omega
theorem mx_max (a b : Int) : mx a b = max a b := by unfold mx; (repeat' split) <;> omega
theorem take_fold (d : List Int) (x : Int) (i : Nat) (h : i < d.length) : min ((d.take i).foldl min x) (rd d (i : Int)) = (d.take (i + 1)).foldl min x := by
  rw [take_snoc d i h, List.foldl_append]; rfl
theorem fold_minD {d : List Int} (h : 0 < d.length) : (d.take d.length).foldl min (rd d 0) = minD d := by
  rw [List.take_of_length_le (Nat.le_refl _)]
  cases d with
  | nil => simp at h
  | cons x r =>
    show (x :: r).foldl min x = r.foldl min x
    rw [List.foldl_cons]
    congr 1
    omega
theorem blk_l0 (d : List Int) (hn : d.length ≤ 128) (h0 : 0 < d.length) : ∀ (e k i : Nat), i + e = d.length → marquetryref13_block.l0 (k + e + 1) d ((d.take i).foldl min (rd d 0)) (i : Int) = (marquetryref13_Signed.f k (minD d)).bind fun t => marquetryref13_block.l1 k d (minD d) t [] 0
  | 0, k, i, h => by
    rw [show k + 0 + 1 = k + 1 by omega, marquetryref13_block.l0, if_neg (by omega), show i = d.length by omega, fold_minD h0]
  | e + 1, k, i, h => by
    rw [show k + (e + 1) + 1 = (k + e + 1) + 1 by omega, marquetryref13_block.l0, if_pos (by omega), if_pos (by omega), mn_min, take_fold d _ i (by omega), w64 (by omega) (by omega), show (i : Int) + 1 = ((i + 1 : Nat) : Int) by omega]
    exact blk_l0 d hn h0 e k (i + 1) (by omega)
theorem cut_rd (d : List Int) (p i : Nat) (hi : i < (cutW d p).length) : rd d ((32 * p + i : Nat) : Int) = rd (cutW d p) (i : Int) := by
  have hl := cutW_len d p
  rw [rd_lt d _ (by omega), rd_lt _ i hi]
  simp only [cutW, List.getElem_take, List.getElem_drop]
theorem rd_set (l : List Int) (i : Nat) (x : Int) (h : i < l.length) : rd (l.set i x) (i : Int) = x := by
  rw [rd_lt _ i (by rw [List.length_set]; exact h)]
  simp
theorem difsW_length (least : Int) (xs : List Int) (j : Nat) (h : j ≤ xs.length) (hj : j ≤ 32) : (difsW least xs j).length = 32 := by
  unfold difsW
  rw [List.length_append, List.length_map, List.length_take, List.length_replicate]
  omega
theorem difsW_end (least : Int) (xs : List Int) : difsW least xs xs.length = rowW least xs := by
  unfold difsW rowW
  rw [List.take_of_length_le (Nat.le_refl _)]
theorem w32p {p : Nat} (h : p < 4) : wrap64 (32 * (p : Int)) = 32 * (p : Int) := w64 (by omega) (by omega)
theorem w32q {p i q : Nat} (h : p < 4) (hi : i ≤ 32) (hq : q = 32 * p + i) : wrap64 (32 * (p : Int) + (i : Int)) = (q : Int) := by rw [w64 (by omega) (by omega)]; omega
theorem blk_l2 (d : List Int) (hn : d.length ≤ 128) (M : Int) (p N : Nat) (hp : p < 4) (hN : N = min 32 (d.length - 32 * p)) (D : Nat → List Int) (T v : Nat → Int) (pk x5 x6 R : List Int) (h5 : x5.length ≤ 1000) (h6 : x6.length ≤ 100000) (need : Nat) (hneed : 2200 ≤ need)
    (hD : ∀ i, i ≤ N → (D i).length = 32) (hs : ∀ i, i < N → (D i).set i (v i) = D (i + 1)) (hr : ∀ i : Nat, i < N → rd (D (i + 1)) (i : Int) = v i) (hT : ∀ i, i < N → max (T i) (W64 (v i)) = T (i + 1)) (hv : ∀ i : Nat, i < N → marquetryref13_Sub.f (rd d ((32 * p + i : Nat) : Int)) M = some (v i) ∧ inI (v i))
    (hpk : ∀ k, 2200 ≤ k → marquetryref13_Pack.f k (T N) (D N) = some pk) (hpl : pk.length ≤ 256) (hTr : 0 ≤ T N ∧ T N ≤ 64)
    (hl1 : ∀ k, need ≤ k → marquetryref13_block.l1 k d M (x5 ++ [T N]) (x6 ++ pk) ((p + 1 : Nat) : Int) = some R) :
    ∀ (e K i : Nat), i + e = N → need + 2 * e + 2 ≤ K → marquetryref13_block.l2 K d M x5 x6 (p : Int) (D i) (T i) (i : Int) = some R
  | 0, K, i, h, hK => by
    obtain ⟨k, rfl⟩ : ∃ j, K = j + 2 := ⟨K - 2, by omega⟩
    obtain rfl : i = N := by omega
    have hk1 : need ≤ k := by omega
    have hk2 : 2200 ≤ k := by omega
    have b1 : x5.length < 140737488355328 := by omega
    have b2 : x6.length + pk.length < 140737488355328 := by omega
    have e1 : T i % 256 = T i := by omega
    have hi32 : i ≤ 32 := by omega
    have c0 : ¬ ((32 * p + i : Nat) : Int) < (d.length : Int) ∨ ¬ (i : Int) < 32 := by omega
    have hfin : marquetryref13_block.j3 (k + 1) d M x5 x6 (p : Int) (D i) (T i) (i : Int) false = some R := by
      rw [marquetryref13_block.j3, if_neg (by decide), if_pos b1, hpk k hk2, Option.bind_some, if_pos b2, e1, w64s (by omega)]
      exact hl1 k hk1
    rw [marquetryref13_block.l2]
    by_cases c : (i : Int) < 32
    · rw [if_pos c, w32p hp, w32q hp hi32 rfl, decide_eq_false (c0.resolve_right (fun h => h c))]
      exact hfin
    · rw [if_neg c]
      exact hfin
  | e + 1, K, i, h, hK => by
    obtain ⟨k, rfl⟩ : ∃ j, K = j + 2 := ⟨K - 2, by omega⟩
    have hi : i < N := by omega
    obtain ⟨q, hq⟩ : ∃ q, q = 32 * p + i := ⟨_, rfl⟩
    have hv0 := hv i hi
    rw [← hq] at hv0
    have hdl := hD i (by omega)
    have c1 : (0 : Int) ≤ (q : Int) := by omega
    have c2 : (q : Int) < (d.length : Int) := by omega
    have c3 : (0 : Int) ≤ (i : Int) := by omega
    have c4 : (i : Int) < ((D i).length : Int) := by omega
    have c5 : (i : Int) < 32 := by omega
    have hi32 : i ≤ 32 := by omega
    have hi1 : i + 1 ≤ 1000000000 := by omega
    have e1 : ((i : Int)).toNat = i := rfl
    have hw := ref_width (k := k) (by omega) hv0.2
    have r1 : (i + 1) + e = N := by omega
    have r2 : need + 2 * e + 2 ≤ k := by omega
    rw [marquetryref13_block.l2, if_pos c5, w32p hp, w32q hp hi32 hq, decide_eq_true c2, marquetryref13_block.j3, if_pos rfl, w32p hp, w32q hp hi32 hq, if_pos c1, if_pos c2, hv0.1, Option.bind_some, if_pos c3, if_pos c4, Option.bind_some, e1, hs i hi, hr i hi, hw, Option.bind_some, mx_max, hT i hi, w64s hi1]
    exact blk_l2 d hn M p N hp hN D T v pk x5 x6 R h5 h6 need hneed hD hs hr hT hv hpk hpl hTr hl1 e k (i + 1) r1 r2
set_option maxRecDepth 20000 in
theorem blk_l1 (d : List Int) (hd : ∀ x ∈ d, inI x) (hn : d.length ≤ 128) (M : Int) (hM : inI M) : ∀ (m p K : Nat) (x5 x6 : List Int), p + m = 4 → x5.length + m ≤ 1000 → x6.length + 256 * m ≤ 100000 → 2201 + 67 * m ≤ K →
    marquetryref13_block.l1 K d M x5 x6 (p : Int) = some ((x5 ++ wsR M d m p) ++ (x6 ++ psR M d m p))
  | 0, p, K, x5, x6, hp, h5, h6, hK => by
    obtain ⟨k, rfl⟩ : ∃ j, K = j + 1 := ⟨K - 1, by omega⟩
    rw [marquetryref13_block.l1, if_neg (by omega), if_pos (by omega)]
    simp [wsR, psR]
  | m + 1, p, K, x5, x6, hp, h5, h6, hK => by
    obtain ⟨k, rfl⟩ : ∃ j, K = j + 1 := ⟨K - 1, by omega⟩
    have hpl := pakB_length M d p
    have hr := topW_range M (cutW d p)
    have hcl := cutW_length d p
    have hcl2 := cutW_len d p
    have hrl := rowW_length M (cutW d p) hcl
    obtain ⟨need, hneed⟩ : ∃ need, need = 2201 + 67 * m := ⟨_, rfl⟩
    have hn0 : 2200 ≤ need := by omega
    have h2 := blk_l2 d hn M p (cutW d p).length (by omega) hcl2 (fun i => difsW M (cutW d p) i) (fun i => topW M ((cutW d p).take i)) (fun i => difW M (rd (cutW d p) (i : Int))) (pakB M d p) x5 x6 ((x5 ++ wsR M d (m + 1) p) ++ (x6 ++ psR M d (m + 1) p)) (by omega) (by omega) need hn0
      (fun i hi => difsW_length M _ i hi (by omega)) (fun i hi => difsW_len M _ i hi (by omega)) (fun i hi => by
        have h3 := difsW_length M (cutW d p) i (by omega) (by omega)
        have h4 := rd_set (difsW M (cutW d p) i) i (difW M (rd (cutW d p) (i : Int))) (by omega)
        rwa [difsW_len M (cutW d p) i hi (by omega)] at h4)
      (fun i hi => (topW_snoc M (cutW d p) i hi).symm) (fun i hi => ⟨by
        have hm : inI (rd d ((32 * p + i : Nat) : Int)) := by rw [rd_lt d _ (by omega)]; exact hd _ (List.getElem_mem _)
        rw [ref_sub hm hM, cut_rd d p i hi]; rfl, wrap_in _⟩)
      (fun k hk => by
        have hpk := ref_pack (k := k) (W := (topW M (cutW d p)).toNat) (ys := rowW M (cutW d p)) (by omega) (by omega) (by
          rw [hrl]
          have : 32 * ((topW M (cutW d p)).toNat + 2) ≤ 32 * 66 := Nat.mul_le_mul_left _ (by omega)
          omega)
        rw [show (((topW M (cutW d p)).toNat : Nat) : Int) = topW M (cutW d p) by omega] at hpk
        have e1 : (cutW d p).take (cutW d p).length = cutW d p := List.take_of_length_le (Nat.le_refl _)
        show marquetryref13_Pack.f k (topW M ((cutW d p).take (cutW d p).length)) (difsW M (cutW d p) (cutW d p).length) = _
        rw [e1, difsW_end]
        exact hpk)
      (by rw [hpl]; omega) (by
        have e1 : (cutW d p).take (cutW d p).length = cutW d p := List.take_of_length_le (Nat.le_refl _)
        show 0 ≤ topW M ((cutW d p).take (cutW d p).length) ∧ _
        rw [e1]; exact hr)
      (fun k' hk' => by
        have e1 : (cutW d p).take (cutW d p).length = cutW d p := List.take_of_length_le (Nat.le_refl _)
        show marquetryref13_block.l1 k' d M (x5 ++ [topW M ((cutW d p).take (cutW d p).length)]) (x6 ++ pakB M d p) ((p + 1 : Nat) : Int) = _
        rw [e1, blk_l1 d hd hn M hM m (p + 1) k' _ _ (by omega) (by rw [List.length_append, List.length_singleton]; omega) (by rw [List.length_append]; omega) (by omega)]
        simp [wsR, psR]) (cutW d p).length k 0 (by omega) (by omega)
    have e1 : difsW M (cutW d p) 0 = List.replicate 32 0 := by simp [difsW]
    have e2 : topW M ((cutW d p).take 0) = 0 := by simp [topW]
    rw [e1, e2, show ((0 : Nat) : Int) = 0 from rfl] at h2
    rw [marquetryref13_block.l1, if_pos (by omega), if_pos (by decide)]
    exact h2
theorem cut_nil (d : List Int) (i : Nat) (h : npW d ≤ i) : cutW d i = [] := by
  have := cutW_len d i
  unfold npW at h
  exact List.length_eq_zero_iff.1 (by omega)
theorem wsR_more (M : Int) (d : List Int) : ∀ (m z i : Nat), npW d ≤ i + m → wsR M d (m + z) i = wsR M d m i ++ List.replicate z 0
  | 0, 0, i, h => rfl
  | 0, z + 1, i, h => by
    have ih := wsR_more M d 0 z (i + 1) (by omega)
    rw [show 0 + (z + 1) = (0 + z) + 1 by omega]
    show topW M (cutW d i) :: wsR M d (0 + z) (i + 1) = [] ++ List.replicate (z + 1) 0
    rw [ih, cut_nil d i (by omega), List.replicate_succ]
    rfl
  | m + 1, z, i, h => by
    have ih := wsR_more M d m z (i + 1) (by omega)
    rw [show m + 1 + z = (m + z) + 1 by omega, wsR, wsR, ih]
    rfl
theorem psR_more (M : Int) (d : List Int) : ∀ (m z i : Nat), npW d ≤ i + m → psR M d (m + z) i = psR M d m i
  | 0, 0, i, h => rfl
  | 0, z + 1, i, h => by
    have ih := psR_more M d 0 z (i + 1) (by omega)
    have e : pakB M d i = [] := List.length_eq_zero_iff.1 (by rw [pakB_length, cut_nil d i (by omega)]; rfl)
    rw [show 0 + (z + 1) = (0 + z) + 1 by omega]
    show pakB M d i ++ psR M d (0 + z) (i + 1) = []
    rw [ih, e]
    rfl
  | m + 1, z, i, h => by
    have ih := psR_more M d m z (i + 1) (by omega)
    rw [show m + 1 + z = (m + z) + 1 by omega, psR, psR, ih]
theorem ref_block {k : Nat} (hk : 4000 ≤ k) {d : List Int} (hd : ∀ x ∈ d, inI x) (h0 : 0 < d.length) (hn : d.length ≤ 128) : marquetryref13_block.f k d = some (blkB d) := by
  obtain ⟨k', rfl⟩ : ∃ j, k = j + d.length + 1 := ⟨k - d.length - 1, by omega⟩
  have hM := minD_in hd
  have hz := zz_range hM.1 hM.2
  have hv := vb_length64 (n := (zz (minD d)).toNat) (by omega)
  have h1 := blk_l0 d hn h0 d.length k' 0 (by omega)
  rw [show ((0 : Nat) : Int) = 0 from rfl] at h1
  have e0 : (d.take 0).foldl min (rd d 0) = rd d 0 := by simp
  rw [e0] at h1
  unfold marquetryref13_block.f
  rw [if_pos (by omega), h1, ref_signed (by omega) hM.1 hM.2, Option.bind_some]
  have h2 := blk_l1 d hd hn (minD d) hM 4 0 k' (vb (zz (minD d)).toNat) [] (by omega) (by omega) (by simp) (by omega)
  rw [show ((0 : Nat) : Int) = 0 from rfl] at h2
  rw [h2]
  have h4 : npW d ≤ 4 := by unfold npW; omega
  have e1 := wsR_more (minD d) d (npW d) (4 - npW d) 0 (by omega)
  have e2 := psR_more (minD d) d (npW d) (4 - npW d) 0 (by omega)
  rw [show npW d + (4 - npW d) = 4 by omega] at e1 e2
  rw [e1, e2]
  simp [blkB]
theorem difD_cut (L : List Int) (N a e : Nat) (h : a ≤ e) (he : e ≤ N) : ((difD L 1 N).take e).drop a = difD L ((1 + a : Nat) : Int) (e - a) := by
  apply List.ext_getElem
  · rw [List.length_drop, List.length_take, difD_length, difD_length]; omega
  · intro i h1 h2
    rw [List.getElem_drop, List.getElem_take]
    simp only [difD, List.getElem_map, List.getElem_range]
    congr 1
    have e1 : (1 : Int) + ((a + i : Nat) : Int) = ((1 + a : Nat) : Int) + (i : Int) := by omega
    rw [e1]
set_option maxRecDepth 20000 in
theorem wr_l1 (L : List Int) (hL : L.length ≤ 65536) (h0 : 0 < L.length) : ∀ (dd K a : Nat) (out : List Int), (L.length : Int) - (1 + a) < 128 * dd → 4001 + dd ≤ K → out.length + 1040 * dd ≤ 99999990 → a ≤ 70000 →
    marquetryref13_Write.l1 K out (difD L 1 (L.length - 1)) (a : Int) = some (out ++ (blksD L dd ((1 + a : Nat) : Int)).flatMap blkB, 0)
  | 0, K, a, out, h, hK, ho, ha => by
    obtain ⟨k, rfl⟩ : ∃ j, K = j + 1 := ⟨K - 1, by omega⟩
    rw [marquetryref13_Write.l1, if_neg (by rw [difD_length]; omega)]
    simp [blksD]
  | dd + 1, K, a, out, h, hK, ho, ha => by
    obtain ⟨k, rfl⟩ : ∃ j, K = j + 1 := ⟨K - 1, by omega⟩
    have hdl := difD_length L 1 (L.length - 1)
    rw [marquetryref13_Write.l1, hdl]
    by_cases c : (a : Int) < ((L.length - 1 : Nat) : Int)
    · obtain ⟨e, he⟩ : ∃ e : Nat, min ((L.length - 1 : Nat) : Int) ((a : Int) + 128) = (e : Int) := ⟨(min ((L.length - 1 : Nat) : Int) ((a : Int) + 128)).toNat, by omega⟩
      have hm : (min (L.length : Int) (((1 + a : Nat) : Int) + 128) - ((1 + a : Nat) : Int)).toNat = e - a := by omega
      have hdi := difD_in L ((1 + a : Nat) : Int) (e - a)
      have hdn := difD_length L ((1 + a : Nat) : Int) (e - a)
      have hd0 : 0 < (difD L ((1 + a : Nat) : Int) (e - a)).length := by omega
      have hd1 : (difD L ((1 + a : Nat) : Int) (e - a)).length ≤ 128 := by omega
      have hbl := blkB_length hdi hd1
      have hk4 : 4000 ≤ k := by omega
      have hob : out.length + (blkB (difD L ((1 + a : Nat) : Int) (e - a))).length < 140737488355328 := by omega
      rw [if_pos c, if_pos (by omega), w64 (by omega) (by omega), mn_min, he, if_pos (by omega), if_pos (by omega), show ((e : Int)).toNat = e from rfl, show ((a : Int)).toNat = a from rfl, difD_cut L _ a e (by omega) (by omega), ref_block (k := k) hk4 hdi hd0 hd1, Option.bind_some, if_pos hob]
      have ih := wr_l1 L hL h0 dd k (a + 128) (out ++ blkB (difD L ((1 + a : Nat) : Int) (e - a))) (by omega) (by omega) (by rw [List.length_append]; omega) (by omega)
      rw [show (a : Int) + 128 = ((a + 128 : Nat) : Int) by omega, ih, blksD, if_pos (by omega), hm, List.flatMap_cons, show ((1 + a : Nat) : Int) + 128 = ((1 + (a + 128) : Nat) : Int) by omega, List.append_assoc]
    · rw [if_neg c, blksD, if_neg (by omega)]
      simp
theorem wsub1 {i : Nat} (h : 1 ≤ i) (h2 : i ≤ 1000000000) : wrap64 ((i : Int) - 1) = ((i - 1 : Nat) : Int) := by rw [w64 (by omega) (by omega)]; omega
theorem wr_l0 (L : List Int) (hx : ∀ x ∈ L, inI x) (hL : L.length ≤ 65536) (h0 : 0 < L.length) (out : List Int) (ho : out.length ≤ 100) : ∀ (e K i : Nat), i + e = L.length → 1 ≤ i → 4700 + e ≤ K →
    marquetryref13_Write.l0 K L out (difD L 1 (i - 1)) (i : Int) = some (out ++ (allD L).flatMap blkB, 0)
  | 0, K, i, h, hi, hK => by
    obtain ⟨k, rfl⟩ : ∃ j, K = j + 1 := ⟨K - 1, by omega⟩
    rw [marquetryref13_Write.l0, if_neg (by omega), show i - 1 = L.length - 1 by omega]
    have := wr_l1 L hL h0 600 k 0 out (by omega) (by omega) (by omega) (by omega)
    exact this
  | e + 1, K, i, h, hi, hK => by
    obtain ⟨k, rfl⟩ : ∃ j, K = j + 1 := ⟨K - 1, by omega⟩
    have m1 : inI (rd L (i : Int)) := by rw [rd_lt L i (by omega)]; exact hx _ (List.getElem_mem _)
    have m2 : inI (rd L ((i - 1 : Nat) : Int)) := by rw [rd_lt L (i - 1) (by omega)]; exact hx _ (List.getElem_mem _)
    have hds := difD_succ L 1 (i - 1)
    rw [show i - 1 + 1 = i by omega, show (1 : Int) + ((i - 1 : Nat) : Int) = (i : Int) by omega, show (i : Int) - 1 = ((i - 1 : Nat) : Int) by omega] at hds
    have ih := wr_l0 L hx hL h0 out ho e k (i + 1) (by omega) (by omega) (by omega)
    rw [show i + 1 - 1 = i by omega, hds] at ih
    rw [marquetryref13_Write.l0, if_pos (by omega), if_pos (by omega), wsub1 hi (by omega), if_pos (by omega), if_pos (by omega), ref_sub m1 m2, Option.bind_some, if_pos (by rw [difD_length]; omega), w64s (n := i) (by omega)]
    exact ih
theorem ref_write {k : Nat} {L : List Int} (hk : L.length + 4800 ≤ k) (hx : ∀ x ∈ L, inI x) (hL : L.length ≤ 65536) : marquetryref13_Write.f k L = some (listB L, 0) := by
  have e128 : vb 128 = [128, 1] := by rw [vb_big (by omega), vb_small (by omega)]; rfl
  have e4 : vb 4 = [4] := by rw [vb_small (by omega)]; rfl
  have h0 := rd0_in hx
  have hz := zz_range h0.1 h0.2
  have hv := vb_length64 (n := (zz (rd L 0)).toNat) (by omega)
  have hv2 := vb_length64 (n := L.length) (by omega)
  have n1 := ref_number (k := k) (x := 128) (by omega) (by omega) (by omega)
  have n2 := ref_number (k := k) (x := 4) (by omega) (by omega) (by omega)
  have n3 := ref_number (k := k) (x := (L.length : Int)) (by omega) (by omega) (by omega)
  rw [show ((128 : Int)).toNat = 128 from rfl, e128] at n1
  rw [show ((4 : Int)).toNat = 4 from rfl, e4] at n2
  rw [show ((L.length : Int)).toNat = L.length from rfl] at n3
  unfold marquetryref13_Write.f
  rw [if_neg (by omega), n1, Option.bind_some, n2, Option.bind_some, if_pos (by decide), Option.bind_some, u64w, show (L.length : Int) % 18446744073709551616 = (L.length : Int) by omega, n3, Option.bind_some, if_pos (by simp; omega), Option.bind_some]
  unfold listB
  by_cases c : L.length = 0
  · rw [if_pos (by omega), if_pos (by simp; omega), if_pos c]
    simp
  · rw [if_neg (by omega), if_pos (by omega), if_neg c, ref_signed (by omega) h0.1 h0.2, Option.bind_some, if_pos (by simp; omega)]
    have := wr_l0 L hx hL (by omega) (([128, 1] ++ [4] ++ vb L.length) ++ vb (zz (rd L 0)).toNat) (by simp; omega) (L.length - 1) k 1 (by omega) (by omega) (by omega)
    rw [show difD L 1 (1 - 1) = [] from rfl, show (((1 : Nat)) : Int) = 1 from rfl] at this
    rw [this]
    simp
end Go.Proofs.Ytbncfhmfohpfbaa.D13
end

section
namespace Go.Proofs.Ytbncfhmfohpfbaa.X
open Go.RowKit Go.Proofs.YtbncfhmfohpfbaaW.PrintWords Go.Proofs.YtbncfhmfohpfbaaW.PrintLast Go.Proofs.YtbncfhmfohpfbaaW.PrintMore Go.Proofs.Ytbncfhmfohpfbaa.D13
set_option linter.unusedVariables false
set_option linter.unusedSimpArgs false
def Rs (res : Except Int (List Int × List Int)) (F : List Int → Prop) : Except Int (List Int) → Prop
  | .ok r => F r
  | .error x => res = .error x ∧ x ≠ 0
def Nx {α : Type} (P : List Int → Except Int (α × List Int)) (st : Except Int (List Int)) (v : α) (st1 : Except Int (List Int)) : Prop :=
  match stepR P st with
  | .ok (y, r) => v = y ∧ st1 = .ok r
  | .error x => st1 = .error x ∧ x ≠ 0
theorem Rs.imp {res : Except Int (List Int × List Int)} {F G : List Int → Prop} {st : Except Int (List Int)} (h : Rs res F st) (hi : ∀ r, F r → G r) : Rs res G st := by
  cases st with
  | ok r => exact hi r h
  | error x => exact h
theorem Rs.step {α : Type} {P : List Int → Except Int (α × List Int)} {res : Except Int (List Int × List Int)} {F : List Int → Prop} {G : α → List Int → Prop} {st st1 : Except Int (List Int)} {v : α} (h : Rs res F st) (hn : Nx P st v st1)
    (hG : ∀ r r1, F r → P r = .ok (v, r1) → G v r1) (hE : ∀ r x, F r → P r = .error x → res = .error x) : Rs res (G v) st1 := by
  unfold Nx at hn
  cases st with
  | error x =>
    obtain ⟨rfl, hx⟩ : st1 = .error x ∧ x ≠ 0 := hn
    exact h
  | ok r =>
    change (match P r with | .ok (y, r) => v = y ∧ st1 = .ok r | .error x => st1 = .error x ∧ x ≠ 0) at hn
    cases hp : P r with
    | error x =>
      rw [hp] at hn
      obtain ⟨rfl, hx⟩ := hn
      exact ⟨hE r x h hp, hx⟩
    | ok q =>
      obtain ⟨y, r1⟩ := q
      rw [hp] at hn
      obtain ⟨rfl, rfl⟩ := hn
      exact hG r r1 h hp
theorem Rs.next {α : Type} {P : List Int → Except Int (α × List Int)} {res : Except Int (List Int × List Int)} {k : α → List Int → Except Int (List Int × List Int)} {st st1 : Except Int (List Int)} {v : α} (h : Rs res (fun r => res = andS (P r) k) st) (hn : Nx P st v st1) : Rs res (fun r => res = k v r) st1 :=
  Rs.step (G := fun v r => res = k v r) h hn (fun r r1 h hp => by rw [h, hp]; rfl) (fun r x h hp => by rw [h, hp]; rfl)
theorem Rs.must {res : Except Int (List Int × List Int)} {c : Prop} [Decidable c] {X : List Int → Except Int (List Int × List Int)} {st : Except Int (List Int)} {b : Bool} (h : Rs res (fun r => res = if c then X r else .error 8) st) (hb : b = decide c) : Rs res (fun r => c ∧ res = X r) (mustR b st) := by
  cases st with
  | error x => exact h
  | ok r =>
    have h : res = if c then X r else .error 8 := h
    subst hb
    by_cases hc : c
    · rw [if_pos hc] at h
      rw [decide_eq_true hc]
      exact ⟨hc, h⟩
    · rw [if_neg hc] at h
      rw [decide_eq_false hc]
      exact ⟨h, by decide⟩
theorem rs_after {A : Type} {res : Except Int (List Int × List Int)} {F : List Int → Prop} {st : Except Int (List Int)} {p : Prop} (h : Rs res (fun r => p ∧ F r) st) : Rs res F st := h.imp fun _ h => h.2
theorem byte_eq (v c : Int) : (v == c) = decide (v = c) := by
  by_cases h : v = c
  · rw [decide_eq_true h]; exact beq_iff_eq.2 h
  · rw [decide_eq_false h]; exact beq_eq_false_iff_ne.2 h
def RxO {α : Type} (w0 : World) (g : Nat) (B : List Int) (W : World) (val : α → Value) (P : List Int → Except Int (α × List Int)) (p : α → Prop) (st : Except Int (List Int)) (e : Ending) (W' : World) : Prop :=
  ∃ v st1, e = .returned (val v) ∧ Nx P st v st1 ∧ p v ∧ RfI w0 g B st1 W' ∧ KeepBut W W' g none
theorem rfI_wrong {w0 : World} {g : Nat} {B : List Int} {x : Int} {W : World} (h : RfI w0 g B (.error x) W) : x ≠ 0 := by
  obtain ⟨_, _, _, ⟨_, h⟩, _⟩ := h
  exact h
theorem rx_of {w0 W W' : World} {g : Nat} {B : List Int} {val : Int → Value} {P : List Int → Except Int (Int × List Int)} {st : Except Int (List Int)} {e : Ending} {p : Int → Prop} (h : RfO w0 g B W val id (stepR P st) e W') (hp : ∀ v, e = .returned (val v) → p v) : RxO w0 g B W val P p st e W' := by
  obtain ⟨v, rfl, hK, hm⟩ := h
  unfold RxO Nx
  cases hr : stepR P st with
  | error x =>
    rw [hr] at hm
    exact ⟨v, .error x, rfl, ⟨rfl, rfI_wrong hm⟩, hp v rfl, hm, hK⟩
  | ok q =>
    obtain ⟨y, r⟩ := q
    rw [hr] at hm
    obtain ⟨hv, hI⟩ := hm
    have hv : v = y := hv
    subst hv
    exact ⟨v, .ok r, rfl, ⟨rfl, rfl⟩, hp _ rfl, hI, hK⟩
theorem rx_number (w0 : World) (g : Nat) (B : List Int) (st : Except Int (List Int)) (W : World) (hl : B.length ≤ 1000000000) (hu : ∀ x ∈ B, 0 ≤ x ∧ x ≤ 255) (h : RfI w0 g B st W) :
    Calls Try.prog 41 #[.pointer (some ⟨g, 0, none⟩)] W (RxO w0 g B W (Value.int .u64) (numS 0 0) (fun _ => True) st) :=
  (rf_number w0 g B st W hl hu h).mono fun _ _ h => rx_of h (fun _ _ => trivial)
theorem rd_range {B : List Int} (hu : ∀ x ∈ B, 0 ≤ x ∧ x ≤ 255) (i : Int) : 0 ≤ rd B i ∧ rd B i ≤ 255 := getD_u8 hu _
theorem rx_next (w0 : World) (g : Nat) (B : List Int) (st : Except Int (List Int)) (W : World) (hl : B.length ≤ 1000000000) (hu : ∀ x ∈ B, 0 ≤ x ∧ x ≤ 255) (h : RfI w0 g B st W) :
    Calls Try.prog 44 #[.pointer (some ⟨g, 0, none⟩)] W (RxO w0 g B W (Value.int .u8) byteS (fun v => 0 ≤ v ∧ v ≤ 255) st) := by
  obtain ⟨at_, wrong, hI, hst, hB⟩ := id h
  have key : ∃ v at2 wrong2, marquetryref13_Reader_next.f 40 B at_ wrong = some (v, at2, wrong2) ∧ (0 ≤ v ∧ v ≤ 255) ∧ (match stepR byteS st with | .ok (y, r) => v = y ∧ StR B at2 wrong2 (.ok r) | .error x => StR B at2 wrong2 (.error x)) := by
    cases st with
    | error x =>
      obtain ⟨rfl, hx⟩ := hst
      exact ⟨0, at_, wrong, next_wrong (by decide) hx, by omega, rfl, hx⟩
    | ok r =>
      obtain ⟨rfl, a, rfl, ha, rfl⟩ := stR_ok hst
      by_cases c : a < B.length
      · refine ⟨_, _, _, next_one (k := 40) (by decide) c (by omega), rd_range hu _, ?_⟩
        unfold stepR
        simp only []
        rw [drop_rd c]
        exact ⟨rfl, rfl, by omega, by omega, rfl⟩
      · refine ⟨_, _, _, next_nil (k := 40) (by decide) (by omega), by omega, ?_⟩
        unfold stepR
        simp only []
        rw [List.drop_of_length_le (by omega)]
        exact ⟨rfl, by decide⟩
  obtain ⟨v, at2, wrong2, hv, hin, hm⟩ := key
  refine (marquetryref13_Reader_next.calls 40 g B at_ wrong v at2 wrong2 w0 W hI hB hv).mono ?_
  rintro e W' ⟨rfl, hI', hB', hK⟩
  unfold RxO Nx
  cases hr : stepR byteS st with
  | error x =>
    rw [hr] at hm
    exact ⟨v, .error x, rfl, ⟨rfl, hm.2⟩, hin, ⟨at2, wrong2, hI', hm, hB'⟩, hK⟩
  | ok q =>
    obtain ⟨y, r⟩ := q
    rw [hr] at hm
    obtain ⟨rfl, hm⟩ := hm
    exact ⟨v, .ok r, rfl, ⟨rfl, rfl⟩, hin, ⟨at2, wrong2, hI', hm, hB'⟩, hK⟩
theorem signed_in {k : Nat} {B : List Int} {at_ wrong v at2 wrong2 : Int} (h : marquetryref13_Reader_signed.f k B at_ wrong = some (v, at2, wrong2)) : D13.inI v := by
  unfold marquetryref13_Reader_signed.f at h
  obtain ⟨t, _, h⟩ := Option.bind_eq_some_iff.1 h
  split at h
  · obtain ⟨rfl, _⟩ := Prod.mk.inj (Option.some.inj h); exact wrap_in _
  · obtain ⟨rfl, _⟩ := Prod.mk.inj (Option.some.inj h); exact wrap_in _
theorem rx_signed (w0 : World) (g : Nat) (B : List Int) (st : Except Int (List Int)) (W : World) (hl : B.length ≤ 1000000000) (hu : ∀ x ∈ B, 0 ≤ x ∧ x ≤ 255) (h : RfI w0 g B st W) :
    Calls Try.prog 43 #[.pointer (some ⟨g, 0, none⟩)] W (RxO w0 g B W (Value.int .i64) (fun b => mapS sgnV (numS 0 0 b)) D13.inI st) := by
  have hs := rf_signed w0 g B st W hl hu h
  obtain ⟨at_, wrong, hI, hst, hB⟩ := id h
  have key : ∃ v at2 wrong2, marquetryref13_Reader_signed.f 40 B at_ wrong = some (v, at2, wrong2) ∧ (match stepR (fun b => mapS sgnV (numS 0 0 b)) st with | .ok (y, r) => v = y ∧ StR B at2 wrong2 (.ok r) | .error x => StR B at2 wrong2 (.error x)) := by
    cases st with
    | error x =>
      obtain ⟨rfl, hx⟩ := hst
      obtain ⟨v, hv⟩ := signed_wrong (k := 40) (B := B) (at_ := at_) (by decide) hx
      exact ⟨_, _, _, hv, rfl, hx⟩
    | ok r =>
      obtain ⟨rfl, a, rfl, ha, rfl⟩ := stR_ok hst
      obtain ⟨v, at2, wrong2, h1, h2⟩ := signed_ref (k := 40) (by decide) ha hl hu
      refine ⟨v, at2, wrong2, h1, ?_⟩
      unfold OutR at h2
      unfold stepR
      simp only []
      cases hr : mapS sgnV (numS 0 0 (B.drop a)) with
      | error x => rw [hr] at h2; exact h2
      | ok q => rw [hr] at h2; exact h2
  obtain ⟨v, at2, wrong2, hv, hm⟩ := key
  refine (marquetryref13_Reader_signed.calls 40 g B at_ wrong v at2 wrong2 w0 W hI hB hv).mono ?_
  rintro e W' ⟨rfl, hI', hB', hK⟩
  have hin := signed_in hv
  unfold RxO Nx
  cases hr : stepR (fun b => mapS sgnV (numS 0 0 b)) st with
  | error x =>
    rw [hr] at hm
    exact ⟨v, .error x, rfl, ⟨rfl, hm.2⟩, hin, ⟨at2, wrong2, hI', hm, hB'⟩, hK⟩
  | ok q =>
    obtain ⟨y, r⟩ := q
    rw [hr] at hm
    obtain ⟨rfl, hm⟩ := hm
    exact ⟨v, .ok r, rfl, ⟨rfl, rfl⟩, hin, ⟨at2, wrong2, hI', hm, hB'⟩, hK⟩
def RyO (w0 : World) (g : Nat) (B : List Int) (W : World) (w : Nat) (st : Except Int (List Int)) (e : Ending) (W' : World) : Prop :=
  ∃ (ga : Nat) (xs : List Int) (st1 : Except Int (List Int)), e = .returned (.slice (some ⟨ga, 0, none⟩) 32 32) ∧ KeepBut W W' g none ∧ W.heap.size ≤ ga ∧ xs.length = 32 ∧ (∀ x ∈ xs, D13.inI x) ∧ W'.heap[ga]? = some (.cells (xs.map (Value.int .i64)).toArray 2 (0, 0)) ∧ Nx (packedS w) st xs st1 ∧ RfI w0 g B st1 W'
theorem rx_packed (w0 : World) (g : Nat) (B : List Int) (st : Except Int (List Int)) (w : Int) (W : World) (hl : B.length ≤ 1000000000) (hu : ∀ x ∈ B, 0 ≤ x ∧ x ≤ 255) (hw : (∃ r, st = .ok r) → 0 ≤ w ∧ w ≤ 64) (h : RfI w0 g B st W) :
    Calls Try.prog 45 #[.pointer (some ⟨g, 0, none⟩), .int .i64 w] W (RyO w0 g B W w.toNat st) := by
  refine (rf_packed w0 g B st w W hl hu hw h).mono ?_
  rintro e W' ⟨ga, xs, rfl, h1, h2, h3, h4, h5, hm⟩
  unfold RyO Nx
  cases hr : stepR (packedS w.toNat) st with
  | error x =>
    rw [hr] at hm
    exact ⟨ga, xs, .error x, rfl, h1, h2, h3, h4, h5, ⟨rfl, rfI_wrong hm⟩, hm⟩
  | ok q =>
    obtain ⟨y, r⟩ := q
    rw [hr] at hm
    obtain ⟨rfl, hm⟩ := hm
    exact ⟨ga, xs, .ok r, rfl, h1, h2, h3, h4, h5, ⟨rfl, rfl⟩, hm⟩
theorem rf_own {w0 W W' : World} {g base n : Nat} {B : List Int} {st : Except Int (List Int)} {v : Value} {xs : List Value} (hK : KeepBut W W' g none) (hI : RfI w0 g B st W) (ho : W.ownsRow base 2 1 v n xs) : W'.ownsRow base 2 1 v n xs := by
  obtain ⟨_, _, ⟨_, _, hb, _⟩, _⟩ := hI
  refine hK.own ho (fun h => own_ne ho hb (by decide) h.symm) ?_
  cases v.ownBlock with
  | none => exact .inl rfl
  | some b => exact .inr (by simp)
theorem rf_ne {w0 W : World} {g base n : Nat} {B : List Int} {st : Except Int (List Int)} {v : Value} {xs : List Value} (hI : RfI w0 g B st W) (ho : W.ownsRow base 2 1 v n xs) : some g ≠ v.ownBlock := by
  obtain ⟨_, _, ⟨_, _, hb, _⟩, _⟩ := hI
  exact own_ne ho hb (by decide)
theorem rf_blk {w0 W W' : World} {g ga : Nat} {B : List Int} {st : Except Int (List Int)} {cs : Array Value} {t : TypeId} (hK : KeepBut W W' g none) (hI : RfI w0 g B st W) (hb : W.heap[ga]? = some (.cells cs t (0, 0))) (ht : t ≠ 76) : W'.heap[ga]? = some (.cells cs t (0, 0)) := by
  obtain ⟨_, _, hs, _⟩ := hI
  exact hK.blk hb (fun e => hs.ne_blk hb ht e.symm) (by simp)
theorem take_set {ws : List Int} {i : Nat} {v : Int} (h : i < ws.length) : (ws.set i v).take (i + 1) = ws.take i ++ [v] := by
  rw [List.take_succ_eq_append_getElem (by rw [List.length_set]; exact h), List.getElem_set_self, List.take_set_of_le (Nat.le_refl _)]
end Go.Proofs.Ytbncfhmfohpfbaa.X
end
