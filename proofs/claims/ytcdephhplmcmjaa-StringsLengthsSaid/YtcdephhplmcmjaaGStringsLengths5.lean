/- StringsLengths: texts of this seat in one (wip/merge.py): X37, X39, Mr, Ms, Ge, Gr, Mu, Gq, Mt, Gz, Gy, X41, X32, Ta, Tb, Tc, Td. -/
import Derived.Test.YtcdephhplmcmjaaGStringsLengths0
import Derived.Test.YtcdephhplmcmjaaGStringsLengths4
import Derived.Test.YtcdephhplmcmjaaGStringsLengths3
import Derived.Test.YtcdephhplmcmjaaGStringsLengths2
import Derived.Deep.RegionHeld3
section
namespace Go.Proofs.Ytcdephhplmcmjaa.X
open Go.RowKit Go.Proofs.YtcdephhplmcmjaaW.PrintWords Go.Proofs.YtcdephhplmcmjaaW.PrintLast Go.Proofs.YtcdephhplmcmjaaW.PrintMore
attribute [local go_sem] max2_int min2_int max_two min_two max_three min_three max_four min_four
set_option linter.unusedVariables false
set_option linter.unusedSimpArgs false
mutual
def marquetryref13_Reader_number.l0 : Nat → Int → Int → List Int → Int → Int → Option (Int × Int × Int)
 | 0, _, _, _, _, _ => none
 | k + 1, x3, x4, x1000, x1001, x1002 => if x4 < 70 then ((marquetryref13_Reader_next.f k x1000 x1001 x1002).bind fun bt320 => (if bt320.2.2 = 0 then (if x4 = 63 then (if bt320.1 > 1 then (marquetryref13_Reader_number.j1 k x3 x4 bt320.1 true x1000 bt320.2.1 bt320.2.2) else (if x4 > 0 then (marquetryref13_Reader_number.j1 k x3 x4 bt320.1 (bt320.1 == 0) x1000 bt320.2.1 bt320.2.2) else (marquetryref13_Reader_number.j1 k x3 x4 bt320.1 false x1000 bt320.2.1 bt320.2.2))) else (if x4 > 0 then (marquetryref13_Reader_number.j1 k x3 x4 bt320.1 (bt320.1 == 0) x1000 bt320.2.1 bt320.2.2) else (marquetryref13_Reader_number.j1 k x3 x4 bt320.1 false x1000 bt320.2.1 bt320.2.2))) else (some (0, bt320.2.1, bt320.2.2)))) else (some (0, x1001, x1002))
def marquetryref13_Reader_number.j1 : Nat → Int → Int → Int → Bool → List Int → Int → Int → Option (Int × Int × Int)
 | 0, _, _, _, _, _, _, _ => none
 | k + 1, x3, x4, x5, x30, x1000, x1001, x1002 => if x30 = true then ((marquetryref13_Reader_fail.f x1000 x1001 x1002 8).bind fun bt323 => (some (0, bt323.1, bt323.2))) else (if 0 ≤ x4 then (if x5 < 128 then (some (IntKind.u64.wrap (x3 + (shl .u64 (IntKind.u64.wrap (Int.tmod x5 128)) x4)), x1001, x1002)) else (marquetryref13_Reader_number.l0 k (IntKind.u64.wrap (x3 + (shl .u64 (IntKind.u64.wrap (Int.tmod x5 128)) x4))) (wrap64 (x4 + 7)) x1000 x1001 x1002)) else (none))
end
def marquetryref13_Reader_number.f (k : Nat) (s0_0 : List Int) (s0_1 : Int) (s0_2 : Int) : Option (Int × Int × Int) := marquetryref13_Reader_number.l0 k 0 0 s0_0 s0_1 s0_2
theorem marquetryref13_Reader_number.mono_l : ∀ k, (∀ y0 y1 y2 y3 y4, LeO (marquetryref13_Reader_number.l0 k y0 y1 y2 y3 y4) (marquetryref13_Reader_number.l0 (k + 1) y0 y1 y2 y3 y4)) ∧ (∀ y0 y1 y2 y3 y4 y5 y6, LeO (marquetryref13_Reader_number.j1 k y0 y1 y2 y3 y4 y5 y6) (marquetryref13_Reader_number.j1 (k + 1) y0 y1 y2 y3 y4 y5 y6))
 | 0 => ⟨fun _ _ _ _ _ r h => by simp [marquetryref13_Reader_number.l0] at h, fun _ _ _ _ _ _ _ r h => by simp [marquetryref13_Reader_number.j1] at h⟩
 | k + 1 => by
  obtain ⟨ih0, ih1⟩ := marquetryref13_Reader_number.mono_l k
  refine ⟨?_, ?_⟩
  ·intro y0 y1 y2 y3 y4
   unfold marquetryref13_Reader_number.l0
   repeat' first
   | (with_reducible exact ih0 _ _ _ _ _)
   | (with_reducible exact ih1 _ _ _ _ _ _ _)
   | (with_reducible exact marquetryref13_Reader_next.mono _ _ _ _)
   | (with_reducible exact LeO.refl _)
   | (with_reducible exact LeO.none _)
   | (with_reducible refine LeO.ite ?_ ?_)
   | (with_reducible refine LeO.bind ?_ (fun _ => ?_))
   | exact ih0 _ _ _ _ _
   | exact ih1 _ _ _ _ _ _ _
   | exact marquetryref13_Reader_next.mono _ _ _ _
   | exact LeO.none _
   | refine LeO.ite ?_ ?_
   | refine LeO.bind ?_ (fun _ => ?_)
  ·intro y0 y1 y2 y3 y4 y5 y6
   unfold marquetryref13_Reader_number.j1
   repeat' first
   | (with_reducible exact ih0 _ _ _ _ _)
   | (with_reducible exact ih1 _ _ _ _ _ _ _)
   | (with_reducible exact marquetryref13_Reader_next.mono _ _ _ _)
   | (with_reducible exact LeO.refl _)
   | (with_reducible exact LeO.none _)
   | (with_reducible refine LeO.ite ?_ ?_)
   | (with_reducible refine LeO.bind ?_ (fun _ => ?_))
   | exact ih0 _ _ _ _ _
   | exact ih1 _ _ _ _ _ _ _
   | exact marquetryref13_Reader_next.mono _ _ _ _
   | exact LeO.none _
   | refine LeO.ite ?_ ?_
   | refine LeO.bind ?_ (fun _ => ?_)
theorem marquetryref13_Reader_number.mono : ∀ a0 a1 a2 k, LeO (marquetryref13_Reader_number.f k a0 a1 a2) (marquetryref13_Reader_number.f (k + 1) a0 a1 a2) := by
 intro a0 a1 a2 k
 obtain ⟨ih0, ih1⟩ := marquetryref13_Reader_number.mono_l k
 unfold marquetryref13_Reader_number.f
 repeat' first
   | (with_reducible exact ih0 _ _ _ _ _)
   | (with_reducible exact ih1 _ _ _ _ _ _ _)
   | (with_reducible exact marquetryref13_Reader_next.mono _ _ _ _)
   | (with_reducible exact LeO.refl _)
   | (with_reducible exact LeO.none _)
   | (with_reducible refine LeO.ite ?_ ?_)
   | (with_reducible refine LeO.bind ?_ (fun _ => ?_))
   | exact ih0 _ _ _ _ _
   | exact ih1 _ _ _ _ _ _ _
   | exact marquetryref13_Reader_next.mono _ _ _ _
   | exact LeO.none _
   | refine LeO.ite ?_ ?_
   | refine LeO.bind ?_ (fun _ => ?_)
set_option maxHeartbeats 8000000 in
set_option maxRecDepth 100000 in
theorem marquetryref13_Reader_number.calls (k : Nat) (g : Nat) (s0_0 : List Int) (s0_1 : Int) (s0_2 : Int) (r1 : Int) (r2 : Int) (r3 : Int) (w0 w : World) (hI : IsS87 w0 w g s0_0 s0_1 s0_2) (hB : Below w0.heap.size w0 w) (h : marquetryref13_Reader_number.f k s0_0 s0_1 s0_2 = some (r1, r2, r3)) :
  Calls Try.prog 54 #[.pointer (some ⟨g, 0, none⟩)] w fun e w' => e = .returned (.int .u64 r1) ∧ IsS87 w0 w' g s0_0 r2 r3 ∧ Below w0.heap.size w0 w' ∧ KeepBut w w' g none := by
 have HI0 := Aside0.mk hI
 have HK := Aside0.mk (KeepBut.refl w g none)
 have HL := Aside0.mk hB.size
 clear hI
 have HW0 := Aside0.mk hB.size
 have HB := Aside0.mk hB
 clear hB
 have H : (marquetryref13_Reader_number.l0 k 0 0 s0_0 s0_1 s0_2) = some (r1, r2, r3) := h
 clear h
 have H' := Aside0.mk H
 clear H
 go_enter Try.func54, Try.ntmps54
 go_wp2
 go_loopg [3, 4] k (fun kq v3 v4 w' => ∃ (x3_1 : Int) (x4_1 : Int) (x1001_1 : Int) (x1002_1 : Int), v3 = .int .u64 x3_1 ∧ v4 = .int .i64 x4_1 ∧ Aside0 (marquetryref13_Reader_number.l0 kq x3_1 x4_1 s0_0 x1001_1 x1002_1 = some (r1, r2, r3)) ∧ Aside0 (kq ≤ k) ∧ Aside0 (IsS87 w0 w' g s0_0 x1001_1 x1002_1) ∧ Aside0 (KeepBut w w' g none) ∧ Aside0 (Below w0.heap.size w0 w'))
 case atStart => exact ⟨(0), (0), (s0_1), (s0_2), (by first | rfl | (simp; done) | (simp [*]; done)), (by first | rfl | (simp; done) | (simp [*]; done)), H', ⟨Nat.le_refl _⟩, ⟨by repeat (first | (with_reducible first | exact HI0.out | apply IsS87.alloc | apply IsS87.drewN | apply IsS87.drew | apply IsS87.set_1 | apply IsS87.set_2) | exact HI0.out)⟩, ⟨by repeat (first | (with_reducible first | exact HK.out | apply KeepBut.set_ | apply keep_drewN | apply keep_drew | apply keep_alloc) | exact HK.out)⟩, ⟨by repeat (first | (with_reducible first | exact HB.out | apply below_alloc | apply pw_below_drewN | apply below_drew1 | refine below_set ?_ (IsS87.ge HI0.out)) | exact HB.out)⟩⟩
 case round =>
  clear H'
  obtain ⟨x3_1, x4_1, x1001_1, x1002_1, rfl, rfl, HA, HK1, HI0, HK, HB⟩ := hrel
  cases gk with
  | zero => exact absurd HA.out (by simp [marquetryref13_Reader_number.l0])
  | succ k1 =>
   have H := HA.out
   clear HA
   simp only [marquetryref13_Reader_number.l0] at H
   by_cases c2 : x4_1 < 70
   ·rw [if_pos c2] at H
    have c2b0 : decide (x4_1 < 70) = true := decide_eq_true c2
    clear c2
    replace H := Option.bind_eq_some_iff.mp H
    obtain ⟨⟨t320, t321, t322⟩, A30, H⟩ := H
    replace H : (if t322 = 0 then (if x4_1 = 63 then (if t320 > 1 then (marquetryref13_Reader_number.j1 k1 x3_1 x4_1 t320 true s0_0 t321 t322) else (if x4_1 > 0 then (marquetryref13_Reader_number.j1 k1 x3_1 x4_1 t320 (t320 == 0) s0_0 t321 t322) else (marquetryref13_Reader_number.j1 k1 x3_1 x4_1 t320 false s0_0 t321 t322))) else (if x4_1 > 0 then (marquetryref13_Reader_number.j1 k1 x3_1 x4_1 t320 (t320 == 0) s0_0 t321 t322) else (marquetryref13_Reader_number.j1 k1 x3_1 x4_1 t320 false s0_0 t321 t322))) else (some (0, t321, t322))) = some (r1, r2, r3) := H
    have A3 := Aside0.mk A30
    clear A30
    by_cases c4 : t322 = 0
    ·rw [if_pos c4] at H
     have c4b0 : (t322 == 0) = true := beq_iff_eq.mpr c4
     have c4b1 : (t322 != 0) = false := bne_eq_false_iff_eq.mpr c4
     clear c4
     have HC5 := Aside0.mk H
     clear H
     go_upto_region 8 with (first | ((with_reducible refine gate_callee (f := 57) rfl ?_); refine goesL_ (some 11) rfl rfl Try.func57 (by kernel_rfl) rfl #[.pointer (some ⟨g, 0, none⟩)] rfl (by (try simp only [List.map_toArray, List.map_cons, List.map_nil]); first | done | rfl | (simp only [List.length_drop, List.length_take]; rfl)) ?_; (with_reducible refine (marquetryref13_Reader_next.calls k1 g s0_0 x1001_1 x1002_1 t320 t321 t322 w0 _ ?side1 ?side2 A3.out).mono ?_); (case side1 => repeat (first | (with_reducible first | exact HI0.out | apply IsS87.alloc | apply IsS87.drewN | apply IsS87.drew | apply IsS87.set_1 | apply IsS87.set_2) | exact HI0.out)); (case side2 => repeat (first | (with_reducible first | exact HB.out | apply below_alloc | apply pw_below_drewN | apply below_drew1 | refine below_set ?_ (IsS87.ge HI0.out)) | exact HB.out)); rintro e w6 ⟨rfl, hi, hb, hk⟩; refine ⟨_, rfl, ?_⟩; have n0_ := Aside0.mk (KeepBut.trans (by repeat (first | (with_reducible first | exact HK.out | apply KeepBut.set_ | apply keep_drewN | apply keep_drew | apply keep_alloc) | exact HK.out)) hk (.inl rfl)); have n1_ := Aside0.mk (hb); have n2_ := Aside0.mk (hi); clear HK; clear HB; clear HI0; have HK := n0_; have HB := n1_; have HI0 := n2_; clear n0_ n1_ n2_; (try clear hb); (try clear hb2); (try clear hk); (try clear hi); obtain ⟨ASz7_0, cSz7_0, HGz7, hgz7, HSz7_0⟩ := HI0.out; have hcz7_0 := cellS87_0 HGz7; have hcz7_1 := cellS87_1 HGz7; have hcz7_2 := cellS87_2 HGz7; have hfz7_1 := blk_frozen HGz7 1; have hfz7_2 := blk_frozen HGz7 2; clear HGz7 hgz7))
     (try simp only [Act.put, List.setIfInBounds_toArray, List.set_cons_zero, List.set_cons_succ])
     go_cut [30] (fun v30 wc => ∃ (kq : Nat) (x30_4 : Bool), v30 = .bool x30_4 ∧ Aside0 (marquetryref13_Reader_number.j1 kq x3_1 x4_1 t320 x30_4 s0_0 t321 t322 = some (r1, r2, r3)) ∧ Aside0 (kq ≤ k1) ∧ Aside0 (IsS87 w0 wc g s0_0 t321 t322) ∧ Aside0 (KeepBut w wc g none) ∧ Aside0 (Below w0.heap.size w0 wc))
     case first =>
      have H := HC5.out
      clear HC5
      by_cases c8 : x4_1 = 63
      ·rw [if_pos c8] at H
       have c8b0 : (x4_1 == 63) = true := beq_iff_eq.mpr c8
       have c8b1 : (x4_1 != 63) = false := bne_eq_false_iff_eq.mpr c8
       clear c8
       (first | rw [c8b0] | (simp only [i64_w, i32_w]; rw [c8b0]) | skip)
       by_cases c9 : t320 > 1
       ·rw [if_pos c9] at H
        have c9b0 : decide (1 < t320) = true := decide_eq_true c9
        clear c9
        have H' := Aside0.mk H
        clear H
        go_wp2
        go_meet
        case rel => exact ⟨_, (true), (by first | rfl | (simp; done) | (simp [*]; done)), H', ⟨by have := HK1.out; first | omega | exact Nat.le_refl _⟩, ⟨by repeat (first | (with_reducible first | exact HI0.out | apply IsS87.alloc | apply IsS87.drewN | apply IsS87.drew | apply IsS87.set_1 | apply IsS87.set_2) | exact HI0.out)⟩, ⟨by repeat (first | (with_reducible first | exact HK.out | apply KeepBut.set_ | apply keep_drewN | apply keep_drew | apply keep_alloc) | exact HK.out)⟩, ⟨by repeat (first | (with_reducible first | exact HB.out | apply below_alloc | apply pw_below_drewN | apply below_drew1 | refine below_set ?_ (IsS87.ge HI0.out)) | exact HB.out)⟩⟩
       ·rw [if_neg c9] at H
        have c9b0 : decide (1 < t320) = false := decide_eq_false c9
        clear c9
        by_cases c10 : x4_1 > 0
        ·rw [if_pos c10] at H
         have c10b0 : decide (0 < x4_1) = true := decide_eq_true c10
         clear c10
         have H' := Aside0.mk H
         clear H
         go_wp2
         go_meet
         case rel => exact ⟨_, ((t320 == 0)), (by first | rfl | (simp; done) | (simp [*]; done)), H', ⟨by have := HK1.out; first | omega | exact Nat.le_refl _⟩, ⟨by repeat (first | (with_reducible first | exact HI0.out | apply IsS87.alloc | apply IsS87.drewN | apply IsS87.drew | apply IsS87.set_1 | apply IsS87.set_2) | exact HI0.out)⟩, ⟨by repeat (first | (with_reducible first | exact HK.out | apply KeepBut.set_ | apply keep_drewN | apply keep_drew | apply keep_alloc) | exact HK.out)⟩, ⟨by repeat (first | (with_reducible first | exact HB.out | apply below_alloc | apply pw_below_drewN | apply below_drew1 | refine below_set ?_ (IsS87.ge HI0.out)) | exact HB.out)⟩⟩
        ·rw [if_neg c10] at H
         have c10b0 : decide (0 < x4_1) = false := decide_eq_false c10
         clear c10
         have H' := Aside0.mk H
         clear H
         go_wp2
         go_meet
         case rel => exact ⟨_, (false), (by first | rfl | (simp; done) | (simp [*]; done)), H', ⟨by have := HK1.out; first | omega | exact Nat.le_refl _⟩, ⟨by repeat (first | (with_reducible first | exact HI0.out | apply IsS87.alloc | apply IsS87.drewN | apply IsS87.drew | apply IsS87.set_1 | apply IsS87.set_2) | exact HI0.out)⟩, ⟨by repeat (first | (with_reducible first | exact HK.out | apply KeepBut.set_ | apply keep_drewN | apply keep_drew | apply keep_alloc) | exact HK.out)⟩, ⟨by repeat (first | (with_reducible first | exact HB.out | apply below_alloc | apply pw_below_drewN | apply below_drew1 | refine below_set ?_ (IsS87.ge HI0.out)) | exact HB.out)⟩⟩
      ·rw [if_neg c8] at H
       have c8b0 : (x4_1 == 63) = false := beq_eq_false_iff_ne.mpr c8
       have c8b1 : (x4_1 != 63) = true := bne_iff_ne.mpr c8
       (first | rw [c8b0] | (simp only [i64_w, i32_w]; rw [c8b0]) | skip)
       by_cases c11 : x4_1 > 0
       ·rw [if_pos c11] at H
        have c11b0 : decide (0 < x4_1) = true := decide_eq_true c11
        clear c11
        have H' := Aside0.mk H
        clear H
        go_wp2
        go_meet
        case rel => exact ⟨_, ((t320 == 0)), (by first | rfl | (simp; done) | (simp [*]; done)), H', ⟨by have := HK1.out; first | omega | exact Nat.le_refl _⟩, ⟨by repeat (first | (with_reducible first | exact HI0.out | apply IsS87.alloc | apply IsS87.drewN | apply IsS87.drew | apply IsS87.set_1 | apply IsS87.set_2) | exact HI0.out)⟩, ⟨by repeat (first | (with_reducible first | exact HK.out | apply KeepBut.set_ | apply keep_drewN | apply keep_drew | apply keep_alloc) | exact HK.out)⟩, ⟨by repeat (first | (with_reducible first | exact HB.out | apply below_alloc | apply pw_below_drewN | apply below_drew1 | refine below_set ?_ (IsS87.ge HI0.out)) | exact HB.out)⟩⟩
       ·rw [if_neg c11] at H
        have c11b0 : decide (0 < x4_1) = false := decide_eq_false c11
        clear c11
        have H' := Aside0.mk H
        clear H
        go_wp2
        go_meet
        case rel => exact ⟨_, (false), (by first | rfl | (simp; done) | (simp [*]; done)), H', ⟨by have := HK1.out; first | omega | exact Nat.le_refl _⟩, ⟨by repeat (first | (with_reducible first | exact HI0.out | apply IsS87.alloc | apply IsS87.drewN | apply IsS87.drew | apply IsS87.set_1 | apply IsS87.set_2) | exact HI0.out)⟩, ⟨by repeat (first | (with_reducible first | exact HK.out | apply KeepBut.set_ | apply keep_drewN | apply keep_drew | apply keep_alloc) | exact HK.out)⟩, ⟨by repeat (first | (with_reducible first | exact HB.out | apply below_alloc | apply pw_below_drewN | apply below_drew1 | refine below_set ?_ (IsS87.ge HI0.out)) | exact HB.out)⟩⟩
     case rest =>
      clear HC5
      try clear c1
      try clear c2
      try clear c2b0
      try clear p2
      try clear c4
      try clear c4b0
      try clear c4b1
      try clear c5
      try clear c8
      try clear c8b0
      try clear c8b1
      try clear c9
      try clear c9b0
      try clear c10
      try clear c10b0
      try clear c11
      try clear c11b0
      try clear hcz7_0
      try clear hcz7_1
      try clear hcz7_2
      try clear hfz7_1
      try clear hfz7_2
      obtain ⟨kq, x30_4, rfl, HA, HJ4, HI0, HK, HB⟩ := hcut
      cases kq with
      | zero => exact absurd HA.out (by simp [marquetryref13_Reader_number.j1])
      | succ kj4 =>
       have H := HA.out
       clear HA
       simp only [marquetryref13_Reader_number.j1] at H
       by_cases c12 : x30_4 = true
       ·subst c12
        have H1 : ((marquetryref13_Reader_fail.f s0_0 t321 t322 8).bind fun bt323 => (some (0, bt323.1, bt323.2))) = some (r1, r2, r3) := by rw [if_pos rfl] at H; exact H
        clear H
        have H := H1
        clear H1
        replace H := Option.bind_eq_some_iff.mp H
        obtain ⟨⟨t323, t324⟩, A130, H⟩ := H
        replace H : (some (0, t323, t324)) = some (r1, r2, r3) := H
        have A13 := Aside0.mk A130
        clear A130
        simp only [Option.some.injEq, Prod.mk.injEq] at H
        obtain ⟨rfl, rfl, rfl⟩ := H
        go_wp2_with (first | ((with_reducible refine gate_callee (f := 72) rfl ?_); refine goesL_ (some 32) rfl rfl Try.func72 (by kernel_rfl) rfl #[.pointer (some ⟨g, 0, none⟩), .int .i64 8] rfl (by (try simp only [List.map_toArray, List.map_cons, List.map_nil]); first | done | rfl | (simp only [List.length_drop, List.length_take]; rfl)) ?_; (with_reducible refine (marquetryref13_Reader_fail.calls g s0_0 t321 t322 8 t323 t324 w0 _ ?side1 ?side2 A13.out).mono ?_); (case side1 => repeat (first | (with_reducible first | exact HI0.out | apply IsS87.alloc | apply IsS87.drewN | apply IsS87.drew | apply IsS87.set_1 | apply IsS87.set_2) | exact HI0.out)); (case side2 => repeat (first | (with_reducible first | exact HB.out | apply below_alloc | apply pw_below_drewN | apply below_drew1 | refine below_set ?_ (IsS87.ge HI0.out)) | exact HB.out)); rintro e w14 ⟨rfl, hi, hb, hk⟩; refine ⟨_, rfl, ?_⟩; have n0_ := Aside0.mk (KeepBut.trans (by repeat (first | (with_reducible first | exact HK.out | apply KeepBut.set_ | apply keep_drewN | apply keep_drew | apply keep_alloc) | exact HK.out)) hk (.inl rfl)); have n1_ := Aside0.mk (hb); have n2_ := Aside0.mk (hi); clear HK; clear HB; clear HI0; have HK := n0_; have HB := n1_; have HI0 := n2_; clear n0_ n1_ n2_; (try clear hb); (try clear hb2); (try clear hk); (try clear hi)))
        go_ret
        exact ⟨by first | rfl | (simp [errW_none, errW_some] <;> rfl) | (simp [*, errW_none, errW_some] <;> rfl), by repeat (first | (with_reducible first | exact HI0.out | apply IsS87.alloc | apply IsS87.drewN | apply IsS87.drew | apply IsS87.set_1 | apply IsS87.set_2) | exact HI0.out), by repeat (first | (with_reducible first | exact HB.out | apply below_alloc | apply pw_below_drewN | apply below_drew1 | refine below_set ?_ (IsS87.ge HI0.out)) | exact HB.out), by repeat (first | (with_reducible first | exact HK.out | apply KeepBut.set_ | apply keep_drewN | apply keep_drew | apply keep_alloc) | exact HK.out)⟩
       ·replace c12 := Bool.eq_false_iff.mpr c12
        subst c12
        have H1 : (if 0 ≤ x4_1 then (if t320 < 128 then (some (IntKind.u64.wrap (x3_1 + (shl .u64 (IntKind.u64.wrap (Int.tmod t320 128)) x4_1)), t321, t322)) else (marquetryref13_Reader_number.l0 kj4 (IntKind.u64.wrap (x3_1 + (shl .u64 (IntKind.u64.wrap (Int.tmod t320 128)) x4_1))) (wrap64 (x4_1 + 7)) s0_0 t321 t322)) else (none)) = some (r1, r2, r3) := by rw [if_neg (show ¬ (false = true) by decide)] at H; exact H
        clear H
        have H := H1
        clear H1
        by_cases c15 : 0 ≤ x4_1
        ·rw [if_pos c15] at H
         have c15b0 := eq_true c15
         have c15b1 : decide (0 ≤ x4_1) = true := decide_eq_true c15
         clear c15
         obtain ⟨ji16, hji16⟩ : ∃ j_ : Int, (shl .u64 (IntKind.u64.wrap (Int.tmod t320 128)) x4_1) = j_ := ⟨_, rfl⟩
         replace H : (if t320 < 128 then (some (IntKind.u64.wrap (x3_1 + (ji16)), t321, t322)) else (marquetryref13_Reader_number.l0 kj4 (IntKind.u64.wrap (x3_1 + (ji16))) (wrap64 (x4_1 + 7)) s0_0 t321 t322)) = some (r1, r2, r3) := by first | (rw [hji16] at H; exact H) | (simp only [hji16] at H ⊢; exact H)
         have hji16_ : (IntKind.u64.wrap ((IntKind.u64.wrap (Int.tmod t320 128)) * 2 ^ min x4_1.toNat 64)) = ji16 := hji16
         have hji16z : x4_1 ≤ 64 → (IntKind.u64.wrap ((IntKind.u64.wrap (Int.tmod t320 128)) * 2 ^ x4_1.toNat)) = ji16 := shl_small hji16
         by_cases c17 : t320 < 128
         ·rw [if_pos c17] at H
          have c17b0 : decide (t320 < 128) = true := decide_eq_true c17
          clear c17
          simp only [Option.some.injEq, Prod.mk.injEq] at H
          obtain ⟨rfl, rfl, rfl⟩ := H
          go_wp2
          go_ret
          exact ⟨by first | rfl | (simp [errW_none, errW_some] <;> rfl) | (simp only [← hji16]; first | rfl | (simp [errW_none, errW_some] <;> rfl)) | (simp [*, errW_none, errW_some] <;> rfl), by repeat (first | (with_reducible first | exact HI0.out | apply IsS87.alloc | apply IsS87.drewN | apply IsS87.drew | apply IsS87.set_1 | apply IsS87.set_2) | exact HI0.out), by repeat (first | (with_reducible first | exact HB.out | apply below_alloc | apply pw_below_drewN | apply below_drew1 | refine below_set ?_ (IsS87.ge HI0.out)) | exact HB.out), by repeat (first | (with_reducible first | exact HK.out | apply KeepBut.set_ | apply keep_drewN | apply keep_drew | apply keep_alloc) | exact HK.out)⟩
         ·rw [if_neg c17] at H
          have c17b0 : decide (t320 < 128) = false := decide_eq_false c17
          clear c17
          have H' := Aside0.mk H
          clear H
          go_wp2
          go_roundg kj4
          case measure => have := HK1.out; have := HJ4.out; omega
          case rel => exact ⟨(IntKind.u64.wrap (x3_1 + (ji16))), (wrap64 (x4_1 + 7)), (t321), (t322), (by first | rfl | (simp; done) | (simp only [← hji16] <;> (first | rfl | simp)) | (simp [*]; done)), (by first | rfl | (simp; done) | (simp [*]; done)), H', ⟨by have := HK1.out; have := HJ4.out; omega⟩, ⟨by repeat (first | (with_reducible first | exact HI0.out | apply IsS87.alloc | apply IsS87.drewN | apply IsS87.drew | apply IsS87.set_1 | apply IsS87.set_2) | exact HI0.out)⟩, ⟨by repeat (first | (with_reducible first | exact HK.out | apply KeepBut.set_ | apply keep_drewN | apply keep_drew | apply keep_alloc) | exact HK.out)⟩, ⟨by repeat (first | (with_reducible first | exact HB.out | apply below_alloc | apply pw_below_drewN | apply below_drew1 | refine below_set ?_ (IsS87.ge HI0.out)) | exact HB.out)⟩⟩
        ·rw [if_neg c15] at H
         exact absurd H (by simp)
    ·rw [if_neg c4] at H
     have c4b0 : (t322 == 0) = false := beq_eq_false_iff_ne.mpr c4
     have c4b1 : (t322 != 0) = true := bne_iff_ne.mpr c4
     simp only [Option.some.injEq, Prod.mk.injEq] at H
     obtain ⟨rfl, rfl, rfl⟩ := H
     go_wp2_with (first | ((with_reducible refine gate_callee (f := 57) rfl ?_); refine goesL_ (some 11) rfl rfl Try.func57 (by kernel_rfl) rfl #[.pointer (some ⟨g, 0, none⟩)] rfl (by (try simp only [List.map_toArray, List.map_cons, List.map_nil]); first | done | rfl | (simp only [List.length_drop, List.length_take]; rfl)) ?_; (with_reducible refine (marquetryref13_Reader_next.calls k1 g s0_0 x1001_1 x1002_1 t320 t321 t322 w0 _ ?side1 ?side2 A3.out).mono ?_); (case side1 => repeat (first | (with_reducible first | exact HI0.out | apply IsS87.alloc | apply IsS87.drewN | apply IsS87.drew | apply IsS87.set_1 | apply IsS87.set_2) | exact HI0.out)); (case side2 => repeat (first | (with_reducible first | exact HB.out | apply below_alloc | apply pw_below_drewN | apply below_drew1 | refine below_set ?_ (IsS87.ge HI0.out)) | exact HB.out)); rintro e w18 ⟨rfl, hi, hb, hk⟩; refine ⟨_, rfl, ?_⟩; have n0_ := Aside0.mk (KeepBut.trans (by repeat (first | (with_reducible first | exact HK.out | apply KeepBut.set_ | apply keep_drewN | apply keep_drew | apply keep_alloc) | exact HK.out)) hk (.inl rfl)); have n1_ := Aside0.mk (hb); have n2_ := Aside0.mk (hi); clear HK; clear HB; clear HI0; have HK := n0_; have HB := n1_; have HI0 := n2_; clear n0_ n1_ n2_; (try clear hb); (try clear hb2); (try clear hk); (try clear hi); obtain ⟨ASz19_0, cSz19_0, HGz19, hgz19, HSz19_0⟩ := HI0.out; have hcz19_0 := cellS87_0 HGz19; have hcz19_1 := cellS87_1 HGz19; have hcz19_2 := cellS87_2 HGz19; have hfz19_1 := blk_frozen HGz19 1; have hfz19_2 := blk_frozen HGz19 2; clear HGz19 hgz19))
     go_ret
     exact ⟨by first | rfl | (simp [errW_none, errW_some] <;> rfl) | (simp [*, errW_none, errW_some] <;> rfl), by repeat (first | (with_reducible first | exact HI0.out | apply IsS87.alloc | apply IsS87.drewN | apply IsS87.drew | apply IsS87.set_1 | apply IsS87.set_2) | exact HI0.out), by repeat (first | (with_reducible first | exact HB.out | apply below_alloc | apply pw_below_drewN | apply below_drew1 | refine below_set ?_ (IsS87.ge HI0.out)) | exact HB.out), by repeat (first | (with_reducible first | exact HK.out | apply KeepBut.set_ | apply keep_drewN | apply keep_drew | apply keep_alloc) | exact HK.out)⟩
   ·rw [if_neg c2] at H
    have c2b0 : decide (x4_1 < 70) = false := decide_eq_false c2
    clear c2
    simp only [Option.some.injEq, Prod.mk.injEq] at H
    obtain ⟨rfl, rfl, rfl⟩ := H
    go_wp2
    go_ret
    exact ⟨by first | rfl | (simp [errW_none, errW_some] <;> rfl) | (simp [*, errW_none, errW_some] <;> rfl), by repeat (first | (with_reducible first | exact HI0.out | apply IsS87.alloc | apply IsS87.drewN | apply IsS87.drew | apply IsS87.set_1 | apply IsS87.set_2) | exact HI0.out), by repeat (first | (with_reducible first | exact HB.out | apply below_alloc | apply pw_below_drewN | apply below_drew1 | refine below_set ?_ (IsS87.ge HI0.out)) | exact HB.out), by repeat (first | (with_reducible first | exact HK.out | apply KeepBut.set_ | apply keep_drewN | apply keep_drew | apply keep_alloc) | exact HK.out)⟩
end Go.Proofs.Ytcdephhplmcmjaa.X
end

section
namespace Go.Proofs.Ytcdephhplmcmjaa.X
open Go.RowKit Go.Proofs.YtcdephhplmcmjaaW.PrintWords Go.Proofs.YtcdephhplmcmjaaW.PrintLast Go.Proofs.YtcdephhplmcmjaaW.PrintMore
attribute [local go_sem] max2_int min2_int max_two min_two max_three min_three max_four min_four
set_option linter.unusedVariables false
set_option linter.unusedSimpArgs false
def marquetryref13_Reader_signed.f (k : Nat) (s0_0 : List Int) (s0_1 : Int) (s0_2 : Int) : Option (Int × Int × Int) := (marquetryref13_Reader_number.f k s0_0 s0_1 s0_2).bind fun bt327 => (if (Int.tmod bt327.1 2) = 1 then (some (wrap64 ((wrap64 (-(wrap64 (IntKind.u64.wrap (Int.tdiv bt327.1 2))))) - 1), bt327.2.1, bt327.2.2)) else (some (wrap64 (IntKind.u64.wrap (Int.tdiv bt327.1 2)), bt327.2.1, bt327.2.2)))
theorem marquetryref13_Reader_signed.mono : ∀ a0 a1 a2 k, LeO (marquetryref13_Reader_signed.f k a0 a1 a2) (marquetryref13_Reader_signed.f (k + 1) a0 a1 a2) := by
 intro a0 a1 a2 k
 unfold marquetryref13_Reader_signed.f
 repeat' first
   | (with_reducible exact marquetryref13_Reader_number.mono _ _ _ _)
   | (with_reducible exact LeO.refl _)
   | (with_reducible exact LeO.none _)
   | (with_reducible refine LeO.ite ?_ ?_)
   | (with_reducible refine LeO.bind ?_ (fun _ => ?_))
   | exact marquetryref13_Reader_number.mono _ _ _ _
   | exact LeO.none _
   | refine LeO.ite ?_ ?_
   | refine LeO.bind ?_ (fun _ => ?_)
set_option maxHeartbeats 8000000 in
set_option maxRecDepth 100000 in
theorem marquetryref13_Reader_signed.calls (k : Nat) (g : Nat) (s0_0 : List Int) (s0_1 : Int) (s0_2 : Int) (r1 : Int) (r2 : Int) (r3 : Int) (w0 w : World) (hI : IsS87 w0 w g s0_0 s0_1 s0_2) (hB : Below w0.heap.size w0 w) (h : marquetryref13_Reader_signed.f k s0_0 s0_1 s0_2 = some (r1, r2, r3)) :
  Calls Try.prog 56 #[.pointer (some ⟨g, 0, none⟩)] w fun e w' => e = .returned (.int .i64 r1) ∧ IsS87 w0 w' g s0_0 r2 r3 ∧ Below w0.heap.size w0 w' ∧ KeepBut w w' g none := by
 have HI0 := Aside0.mk hI
 have HK := Aside0.mk (KeepBut.refl w g none)
 have HL := Aside0.mk hB.size
 clear hI
 have HW0 := Aside0.mk hB.size
 have HB := Aside0.mk hB
 clear hB
 have H : ((marquetryref13_Reader_number.f k s0_0 s0_1 s0_2).bind fun bt327 => (if (Int.tmod bt327.1 2) = 1 then (some (wrap64 ((wrap64 (-(wrap64 (IntKind.u64.wrap (Int.tdiv bt327.1 2))))) - 1), bt327.2.1, bt327.2.2)) else (some (wrap64 (IntKind.u64.wrap (Int.tdiv bt327.1 2)), bt327.2.1, bt327.2.2)))) = some (r1, r2, r3) := h
 clear h
 replace H := Option.bind_eq_some_iff.mp H
 obtain ⟨⟨t327, t328, t329⟩, A20, H⟩ := H
 replace H : (if (Int.tmod t327 2) = 1 then (some (wrap64 ((wrap64 (-(wrap64 (IntKind.u64.wrap (Int.tdiv t327 2))))) - 1), t328, t329)) else (some (wrap64 (IntKind.u64.wrap (Int.tdiv t327 2)), t328, t329))) = some (r1, r2, r3) := H
 have A2 := Aside0.mk A20
 clear A20
 by_cases c3 : (Int.tmod t327 2) = 1
 ·rw [if_pos c3] at H
  have c3b0 : ((Int.tmod t327 2) == 1) = true := beq_iff_eq.mpr c3
  have c3b1 : ((Int.tmod t327 2) != 1) = false := bne_eq_false_iff_eq.mpr c3
  clear c3
  simp only [Option.some.injEq, Prod.mk.injEq] at H
  obtain ⟨rfl, rfl, rfl⟩ := H
  go_enter Try.func56, Try.ntmps56
  go_wp2_with (first | ((with_reducible refine gate_callee (f := 54) rfl ?_); refine goesL_ (some 5) rfl rfl Try.func54 (by kernel_rfl) rfl #[.pointer (some ⟨g, 0, none⟩)] rfl (by (try simp only [List.map_toArray, List.map_cons, List.map_nil]); first | done | rfl | (simp only [List.length_drop, List.length_take]; rfl)) ?_; (with_reducible refine (marquetryref13_Reader_number.calls k g s0_0 s0_1 s0_2 t327 t328 t329 w0 _ ?side1 ?side2 A2.out).mono ?_); (case side1 => repeat (first | (with_reducible first | exact HI0.out | apply IsS87.alloc | apply IsS87.drewN | apply IsS87.drew | apply IsS87.set_1 | apply IsS87.set_2) | exact HI0.out)); (case side2 => repeat (first | (with_reducible first | exact HB.out | apply below_alloc | apply pw_below_drewN | apply below_drew1 | refine below_set ?_ (IsS87.ge HI0.out)) | exact HB.out)); rintro e w4 ⟨rfl, hi, hb, hk⟩; refine ⟨_, rfl, ?_⟩; have n0_ := Aside0.mk (KeepBut.trans (by repeat (first | (with_reducible first | exact HK.out | apply KeepBut.set_ | apply keep_drewN | apply keep_drew | apply keep_alloc) | exact HK.out)) hk (.inl rfl)); have n1_ := Aside0.mk (hb); have n2_ := Aside0.mk (hi); clear HK; clear HB; clear HI0; have HK := n0_; have HB := n1_; have HI0 := n2_; clear n0_ n1_ n2_; (try clear hb); (try clear hb2); (try clear hk); (try clear hi)))
  go_ret
  exact ⟨by first | rfl | (simp [errW_none, errW_some] <;> rfl) | (simp [*, errW_none, errW_some] <;> rfl), by repeat (first | (with_reducible first | exact HI0.out | apply IsS87.alloc | apply IsS87.drewN | apply IsS87.drew | apply IsS87.set_1 | apply IsS87.set_2) | exact HI0.out), by repeat (first | (with_reducible first | exact HB.out | apply below_alloc | apply pw_below_drewN | apply below_drew1 | refine below_set ?_ (IsS87.ge HI0.out)) | exact HB.out), by repeat (first | (with_reducible first | exact HK.out | apply KeepBut.set_ | apply keep_drewN | apply keep_drew | apply keep_alloc) | exact HK.out)⟩
 ·rw [if_neg c3] at H
  have c3b0 : ((Int.tmod t327 2) == 1) = false := beq_eq_false_iff_ne.mpr c3
  have c3b1 : ((Int.tmod t327 2) != 1) = true := bne_iff_ne.mpr c3
  simp only [Option.some.injEq, Prod.mk.injEq] at H
  obtain ⟨rfl, rfl, rfl⟩ := H
  go_enter Try.func56, Try.ntmps56
  go_wp2_with (first | ((with_reducible refine gate_callee (f := 54) rfl ?_); refine goesL_ (some 5) rfl rfl Try.func54 (by kernel_rfl) rfl #[.pointer (some ⟨g, 0, none⟩)] rfl (by (try simp only [List.map_toArray, List.map_cons, List.map_nil]); first | done | rfl | (simp only [List.length_drop, List.length_take]; rfl)) ?_; (with_reducible refine (marquetryref13_Reader_number.calls k g s0_0 s0_1 s0_2 t327 t328 t329 w0 _ ?side1 ?side2 A2.out).mono ?_); (case side1 => repeat (first | (with_reducible first | exact HI0.out | apply IsS87.alloc | apply IsS87.drewN | apply IsS87.drew | apply IsS87.set_1 | apply IsS87.set_2) | exact HI0.out)); (case side2 => repeat (first | (with_reducible first | exact HB.out | apply below_alloc | apply pw_below_drewN | apply below_drew1 | refine below_set ?_ (IsS87.ge HI0.out)) | exact HB.out)); rintro e w5 ⟨rfl, hi, hb, hk⟩; refine ⟨_, rfl, ?_⟩; have n0_ := Aside0.mk (KeepBut.trans (by repeat (first | (with_reducible first | exact HK.out | apply KeepBut.set_ | apply keep_drewN | apply keep_drew | apply keep_alloc) | exact HK.out)) hk (.inl rfl)); have n1_ := Aside0.mk (hb); have n2_ := Aside0.mk (hi); clear HK; clear HB; clear HI0; have HK := n0_; have HB := n1_; have HI0 := n2_; clear n0_ n1_ n2_; (try clear hb); (try clear hb2); (try clear hk); (try clear hi)))
  go_ret
  exact ⟨by first | rfl | (simp [errW_none, errW_some] <;> rfl) | (simp [*, errW_none, errW_some] <;> rfl), by repeat (first | (with_reducible first | exact HI0.out | apply IsS87.alloc | apply IsS87.drewN | apply IsS87.drew | apply IsS87.set_1 | apply IsS87.set_2) | exact HI0.out), by repeat (first | (with_reducible first | exact HB.out | apply below_alloc | apply pw_below_drewN | apply below_drew1 | refine below_set ?_ (IsS87.ge HI0.out)) | exact HB.out), by repeat (first | (with_reducible first | exact HK.out | apply KeepBut.set_ | apply keep_drewN | apply keep_drew | apply keep_alloc) | exact HK.out)⟩
end Go.Proofs.Ytcdephhplmcmjaa.X
end

section
namespace Go.Proofs.Ytcdephhplmcmjaa.D13
set_option linter.unusedVariables false
set_option linter.unusedSimpArgs false
open Go.RowKit Go.Proofs.Ytcdephhplmcmjaa.X Go.Proofs.YtcdephhplmcmjaaW.PrintWords Go.Proofs.YtcdephhplmcmjaaW.PrintLast Go.Proofs.YtcdephhplmcmjaaW.PrintMore Go.Proofs.Ytcdephhplmcmjaa.Bx Go.Proofs.Ytcdephhplmcmjaa.Nx Go.Proofs.Ytcdephhplmcmjaa.Px
theorem tmod_u64 {x : Int} (y : Int) (hx : 0 ≤ x) : x.tmod y = x % y := Int.tmod_eq_emod_of_nonneg hx
theorem ref_number_l : ∀ (k : Nat) (x : Int) (acc : List Int), 0 ≤ x → x ≤ 18446744073709551615 → acc.length + (vb x.toNat).length < 140737488355328 → (vb x.toNat).length ≤ k → marquetryref13_Number.l0 k x acc = some (acc ++ vb x.toNat)
  | 0, x, acc, _, _, _, h => by
    exfalso
    by_cases c : x.toNat < 128
    · rw [vb_small c] at h; simp at h
    · rw [vb_big (by omega)] at h; simp at h
  | k + 1, x, acc, h0, h1, h2, h => by
    rw [marquetryref13_Number.l0, u64_tdiv 128 h0 h1 (by decide), tmod_u64 128 h0, u64w]
    by_cases c : x ≥ 128
    · have e := vb_big (n := x.toNat) (by omega)
      rw [e, List.length_cons] at h h2
      rw [if_pos c, if_pos (by omega), e]
      have q : (x / 128).toNat = x.toNat / 128 := by omega
      rw [ref_number_l k (x / 128) _ (by omega) (by omega) (by rw [q]; simp; omega) (by rw [q]; omega), q]
      have r : (128 + x % 128) % 18446744073709551616 % 256 = ((x.toNat % 128 + 128 : Nat) : Int) := by omega
      rw [r]; simp
    · have e := vb_small (n := x.toNat) (by omega)
      rw [e, List.length_singleton] at h2
      rw [if_neg c, if_pos (by omega), e, show x % 256 = ((x.toNat : Nat) : Int) by omega]
theorem ref_number {k : Nat} {x : Int} (hk : 10 ≤ k) (h0 : 0 ≤ x) (h1 : x ≤ 18446744073709551615) : marquetryref13_Number.f k x = some (vb x.toNat) := by
  have := vb_length64 (n := x.toNat) (by omega)
  have h := ref_number_l k x [] h0 h1 (by simp; omega) (by omega)
  rw [List.nil_append] at h
  exact h
theorem ref_signed {k : Nat} {y : Int} (hk : 10 ≤ k) (h : -9223372036854775808 ≤ y) (h' : y ≤ 9223372036854775807) : marquetryref13_Signed.f k y = some (vb (zz y).toNat) := by
  have hz := zz_range h h'
  unfold marquetryref13_Signed.f
  by_cases c : y < 0
  · have e : IntKind.u64.wrap (IntKind.u64.wrap (2 * IntKind.u64.wrap (wrap64 (-wrap64 (y + 1)))) + 1) = zz y := by
      rw [w64 (a := y + 1) (by omega) (by omega), w64 (by omega) (by omega), u64w, u64w, u64w]
      unfold zz
      rw [if_neg (by omega)]
      omega
    rw [if_pos c, e, ref_number hk hz.1 hz.2]; rfl
  · have e : IntKind.u64.wrap (2 * IntKind.u64.wrap y) = zz y := by
      rw [u64w, u64w]
      unfold zz
      rw [if_pos (by omega)]
      omega
    rw [if_neg c, e, ref_number hk hz.1 hz.2]; rfl
theorem and_mask32 (a : Int) : bits .and .i64 a 4294967295 = a % 4294967296 := by
  show IntKind.i64.wrap ((BitVec.ofInt 64 a &&& BitVec.ofInt 64 4294967295).toNat : Int) = _
  have e : (BitVec.ofInt 64 a &&& BitVec.ofInt 64 4294967295).toNat = (a % 4294967296).toNat := by
    rw [BitVec.toNat_and, BitVec.toNat_ofInt, BitVec.toNat_ofInt]
    have b : ((4294967295 : Int) % ((2 ^ 64 : Nat) : Int)).toNat = 2 ^ 32 - 1 := by decide
    rw [b, Nat.and_two_pow_sub_one_eq_mod]
    omega
  rw [e, IntKind.wrap_i64]
  omega
theorem ref_halves {a : Int} (h : inI a) : marquetryref13_halves.f a = some (a / 4294967296 % 4294967296, a % 4294967296) := by
  obtain ⟨h1, h2⟩ := h
  unfold marquetryref13_halves.f
  rw [and_mask32]
  by_cases c : a / 4294967296 < 0
  · rw [if_pos c, w64 (by omega) (by omega), show a / 4294967296 + 4294967296 = a / 4294967296 % 4294967296 by omega]
  · rw [if_neg c, show a / 4294967296 = a / 4294967296 % 4294967296 by omega]
    simp
theorem ref_whole {u v : Int} (hu : 0 ≤ u) (hu1 : u < 4294967296) (hv : 0 ≤ v) (hv1 : v < 4294967296) : marquetryref13_whole.f u v = some (wrap64 (u * 4294967296 + v)) := by
  unfold marquetryref13_whole.f
  by_cases c : u ≥ 2147483648
  · rw [if_pos c, w64 (a := u - 4294967296) (by omega) (by omega), w64 (a := (u - 4294967296) * 4294967296) (by omega) (by omega)]
    congr 1
    unfold wrap64; omega
  · rw [if_neg c, w64 (a := u * 4294967296) (by omega) (by omega)]
theorem sub_halves {a b u v : Int} (ha : 0 ≤ u) (hu : u < 4294967296) (hv : 0 ≤ v) (hv1 : v < 4294967296) (h : (u * 4294967296 + v - (a - b)) % 18446744073709551616 = 0) : marquetryref13_whole.f u v = some (wrap64 (a - b)) := by
  rw [ref_whole ha hu hv hv1]
  congr 1
  unfold wrap64
  omega
theorem ref_sub {a b : Int} (ha : inI a) (hb : inI b) : marquetryref13_Sub.f a b = some (wrap64 (a - b)) := by
  unfold marquetryref13_Sub.f
  rw [ref_halves ha, Option.bind_some, ref_halves hb, Option.bind_some]
  simp only []
  obtain ⟨A, hA⟩ : ∃ A, A = a / 4294967296 := ⟨_, rfl⟩
  obtain ⟨B, hB⟩ : ∃ B, B = b / 4294967296 := ⟨_, rfl⟩
  obtain ⟨x, hx⟩ : ∃ x, x = a % 4294967296 := ⟨_, rfl⟩
  obtain ⟨y, hy⟩ : ∃ y, y = b % 4294967296 := ⟨_, rfl⟩
  have ea : a = A * 4294967296 + x := by omega
  have eb : b = B * 4294967296 + y := by omega
  have rA : -2147483648 ≤ A ∧ A < 2147483648 := by obtain ⟨h1, h2⟩ := ha; omega
  have rB : -2147483648 ≤ B ∧ B < 2147483648 := by obtain ⟨h1, h2⟩ := hb; omega
  have rx : 0 ≤ x ∧ x < 4294967296 := by omega
  have ry : 0 ≤ y ∧ y < 4294967296 := by omega
  rw [← hA, ← hB, ← hx, ← hy]
  clear hA hB hx hy ha hb
  obtain ⟨P, hP⟩ : ∃ P, P = A % 4294967296 := ⟨_, rfl⟩
  obtain ⟨Q, hQ⟩ : ∃ Q, Q = B % 4294967296 := ⟨_, rfl⟩
  have rP : 0 ≤ P ∧ P < 4294967296 := by omega
  have rQ : 0 ≤ Q ∧ Q < 4294967296 := by omega
  rw [← hP, ← hQ]
  have w1 : wrap64 (x - y) = x - y := w64 (by omega) (by omega)
  have w2 : wrap64 (P - Q) = P - Q := w64 (by omega) (by omega)
  have w3 : wrap64 (P - Q - 1) = P - Q - 1 := w64 (by omega) (by omega)
  have w4 : wrap64 (P - Q - 1 + 4294967296) = P - Q - 1 + 4294967296 := w64 (by omega) (by omega)
  have w5 : wrap64 (x - y + 4294967296) = x - y + 4294967296 := w64 (by omega) (by omega)
  have w6 : wrap64 (P - Q + 4294967296) = P - Q + 4294967296 := w64 (by omega) (by omega)
  rw [w1, w2, w3, w4, w5, w6, ea, eb]
  clear w1 w2 w3 w4 w5 w6 ea eb
  by_cases c : x - y < 0
  · rw [if_pos c]
    by_cases c2 : P - Q - 1 < 0
    · rw [if_pos c2, sub_halves (a := A * 4294967296 + x) (b := B * 4294967296 + y) (by omega) (by omega) (by omega) (by omega) (by omega)]; rfl
    · rw [if_neg c2, sub_halves (a := A * 4294967296 + x) (b := B * 4294967296 + y) (by omega) (by omega) (by omega) (by omega) (by omega)]; rfl
  · rw [if_neg c]
    by_cases c2 : P - Q < 0
    · rw [if_pos c2, sub_halves (a := A * 4294967296 + x) (b := B * 4294967296 + y) (by omega) (by omega) (by omega) (by omega) (by omega)]; rfl
    · rw [if_neg c2, sub_halves (a := A * 4294967296 + x) (b := B * 4294967296 + y) (by omega) (by omega) (by omega) (by omega) (by omega)]; rfl
theorem ref_width_l : ∀ (f k : Nat) (x : Nat) (acc : Nat), x < 2 ^ f → f ≤ 63 → acc + f ≤ 1000 → f < k → marquetryref13_Width.l0 k (x : Int) (acc : Int) = some ((acc + Lib.bitLenAux f x : Nat) : Int)
  | 0, k, x, acc, h, hf, ha, hk => by
    obtain ⟨k, rfl⟩ : ∃ j, k = j + 1 := ⟨k - 1, by omega⟩
    rw [marquetryref13_Width.l0, if_neg (by simp at h; omega)]; simp [Lib.bitLenAux]
  | f + 1, k, x, acc, h, hf, ha, hk => by
    obtain ⟨k, rfl⟩ : ∃ j, k = j + 1 := ⟨k - 1, by omega⟩
    have hp : 2 ^ (f + 1) ≤ 2 ^ 63 := Nat.pow_le_pow_right (by decide) hf
    have hp2 : 2 ^ 63 = 9223372036854775808 := by decide
    rw [marquetryref13_Width.l0]
    unfold Lib.bitLenAux
    by_cases c : x = 0
    · rw [if_neg (by omega), if_pos c]; simp
    · rw [if_pos (by omega), if_neg c, Int.tdiv_eq_ediv_of_nonneg (by omega), show (x : Int) / 2 = ((x / 2 : Nat) : Int) by omega, w64 (by omega) (by omega), w64 (by omega) (by omega), show (acc : Int) + 1 = ((acc + 1 : Nat) : Int) by omega, ref_width_l f k (x / 2) (acc + 1) (by rw [Nat.pow_succ] at h; omega) (by omega) (by omega) (by omega)]
      congr 2
      omega
theorem ref_width {k : Nat} {x : Int} (hk : 100 ≤ k) (h : inI x) : marquetryref13_Width.f k x = some (W64 x) := by
  obtain ⟨h1, h2⟩ := h
  unfold marquetryref13_Width.f
  by_cases c : x < 0
  · rw [if_pos c]
    have hr := W64_range x
    have hlt := W64_lt x
    congr 1
    by_cases q : W64 x ≤ 63
    · exfalso
      have hp : 2 ^ (W64 x).toNat ≤ 2 ^ 63 := Nat.pow_le_pow_right (by decide) (by omega)
      have hp2 : 2 ^ 63 = 9223372036854775808 := by decide
      omega
    · omega
  · rw [if_neg c]
    obtain ⟨n, rfl⟩ := Int.eq_ofNat_of_zero_le (show 0 ≤ x by omega)
    have := ref_width_l 63 k n 0 (by omega) (by omega) (by omega) (by omega)
    rw [show ((0 : Nat) : Int) = 0 from rfl, Nat.zero_add] at this
    rw [this]
    unfold W64 Lib.bitLen
    rw [u64w, show ((n : Int) % 18446744073709551616).toNat = n by omega, Lib.bitLenAux_fuel 63 n (by omega) 64 (by omega)]
theorem ref_byte {B : List Int} (hB : ∀ b ∈ B, b = 0 ∨ b = 1) {L : Nat} (hL : B.length = L) :
    bits .or .u8 (byteAt B (L / 8)) (shl .u8 1 ((L % 8 : Nat) : Int)) = byteAt B (L / 8) + 1 * 2 ^ (L % 8) := by
  have hb1 := byteAt_range hB (L / 8)
  have hb2 := byteAt_last hB
  rw [hL] at hb2
  have hr8 : L % 8 = 0 ∨ L % 8 = 1 ∨ L % 8 = 2 ∨ L % 8 = 3 ∨ L % 8 = 4 ∨ L % 8 = 5 ∨ L % 8 = 6 ∨ L % 8 = 7 := by omega
  have hs : shl .u8 1 ((L % 8 : Nat) : Int) = 1 * 2 ^ (L % 8) := by
    unfold shl
    rw [show min (((L % 8 : Nat) : Int)).toNat IntKind.u8.bits = L % 8 from by show min _ 8 = _; omega, IntKind.wrap_u8]
    rcases hr8 with h | h | h | h | h | h | h | h <;> rw [h] <;> decide
  rw [hs]
  have hp : (0 : Int) < 2 ^ (L % 8) := Int.pow_pos (by decide)
  have hp2 : (2 : Int) ^ (L % 8) ≤ 128 := by rcases hr8 with h | h | h | h | h | h | h | h <;> rw [h] <;> decide
  exact or_low_high8 (L % 8) _ _ hb1.1 hb2 (by omega) (Int.mul_emod_left _ _) (by omega) (by omega)
set_option maxHeartbeats 1000000 in
theorem ref_pk_l1 : ∀ (d : Nat) (k : Nat) (W : Nat) (n c i : Nat) (x : Int) (B ys : List Int), (∀ b ∈ B, b = 0 ∨ b = 1) → c + d = W → W ≤ 64 → i < ys.length → rd ys (i : Int) = x → B.length = i * W + c → B.length + d ≤ 1000000000 → i ≤ 1000000 → (B.length + d + 7) / 8 ≤ n →
    marquetryref13_Pack.l1 (k + d + 1) (W : Int) ys ((List.range n).map (byteAt B)) (i : Int) (c : Int) = marquetryref13_Pack.l0 k (W : Int) ys ((List.range n).map (byteAt (B ++ bitsFrom x c d))) (wrap64 ((i : Int) + 1))
  | 0, k, W, n, c, i, x, B, ys, hB, hc, hW, hi, hx, hl, hl2, hi2, hn => by
    rw [show k + 0 + 1 = k + 1 by omega, marquetryref13_Pack.l1, if_neg (by omega)]; simp [bitsFrom]
  | d + 1, k, W, n, c, i, x, B, ys, hB, hc, hW, hi, hx, hl, hl2, hi2, hn => by
    have hm : (i : Int) * (W : Int) = ((i * W : Nat) : Int) := (Int.natCast_mul _ _).symm
    have hiW : i * W ≤ 1000000000 := by omega
    rw [show k + (d + 1) + 1 = (k + d + 1) + 1 by omega, marquetryref13_Pack.l1, if_pos (by omega), if_pos (by omega), if_pos (by omega), if_pos (by omega), hx]
    have hsh : shr .i64 x (c : Int) = x / 2 ^ c := by
      unfold shr
      rw [show min ((c : Int)).toNat IntKind.i64.bits = c from by show min _ 64 = _; omega]
    rw [hsh, and_one_i64, hm, w64n hiW, show ((i * W : Nat) : Int) + (c : Int) = ((B.length : Nat) : Int) by omega, w64n (by omega), Int.tdiv_eq_ediv_of_nonneg (by omega), show (B.length : Int) / 8 = ((B.length / 8 : Nat) : Int) by omega, w64n (by omega), tmod_u64 8 (by omega), show (B.length : Int) % 8 = ((B.length % 8 : Nat) : Int) by omega]
    have hb : x / 2 ^ c % 2 = 0 ∨ x / 2 ^ c % 2 = 1 := by omega
    have hB' : ∀ b ∈ B ++ [x / 2 ^ c % 2], b = 0 ∨ b = 1 := by
      intro b hb'
      rcases List.mem_append.1 hb' with h | h
      · exact hB b h
      · rw [List.mem_singleton.1 h]; exact hb
    have ih := ref_pk_l1 d k W n (c + 1) i x (B ++ [x / 2 ^ c % 2]) ys hB' (by omega) hW hi hx (by simp; omega) (by simp; omega) hi2 (by simp; omega)
    rw [List.append_assoc, show [x / 2 ^ c % 2] ++ bitsFrom x (c + 1) d = bitsFrom x c (d + 1) from rfl] at ih
    have e : wrap64 ((c : Int) + 1) = ((c + 1 : Nat) : Int) := w64s (by omega)
    have hlt : B.length / 8 < n := by clear ih hl hm hiW hb hx hi hB hB' e hsh; omega
    have hms0 := map_set B 1 n hlt
    obtain ⟨q, hq⟩ : ∃ q, q = B.length / 8 := ⟨_, rfl⟩
    obtain ⟨r, hr⟩ : ∃ r, r = B.length % 8 := ⟨_, rfl⟩
    have hby : bits .or .u8 (byteAt B q) (shl .u8 1 (r : Int)) = byteAt B q + 1 * 2 ^ r := by rw [hq, hr]; exact ref_byte hB rfl
    have hms : ((List.range n).map (byteAt B)).set q (byteAt B q + 1 * 2 ^ r) = (List.range n).map (byteAt (B ++ [1])) := by rw [hq, hr]; exact hms0
    rw [← hq, ← hr]
    rcases hb with h0 | h1
    · rw [if_neg (by rw [h0]; decide), e]
      rw [h0, map_same] at ih
      exact ih
    · rw [h1] at ih
      rw [if_pos h1, if_pos (Int.natCast_nonneg q), if_pos (show (q : Int) < (((List.range n).map (byteAt B)).length : Int) by rw [List.length_map, List.length_range]; exact Int.ofNat_lt.2 (by rw [hq]; exact hlt)), if_pos (Int.natCast_nonneg r), rd_map B n q (by rw [hq]; exact hlt), show ((q : Int)).toNat = q from rfl, hby, hms, e]
      exact ih
theorem ref_pk_l0 : ∀ (ys1 : List Int) (k : Nat) (W : Nat) (n : Nat) (ys ys0 : List Int), ys = ys0 ++ ys1 → W ≤ 64 → ys.length ≤ 1000000 → (ys.length * W + 7) / 8 ≤ n → ys1.length * (W + 2) + 1 ≤ k →
    marquetryref13_Pack.l0 k (W : Int) ys ((List.range n).map (byteAt (allBits W ys0))) (ys0.length : Int) = some ((List.range n).map (byteAt (allBits W ys)))
  | [], k, W, n, ys, ys0, he, hW, hl, hn, hk => by
    obtain ⟨k, rfl⟩ : ∃ j, k = j + 1 := ⟨k - 1, by omega⟩
    rw [List.append_nil] at he
    subst he
    rw [marquetryref13_Pack.l0, if_neg (by omega)]
  | x :: ys1, k, W, n, ys, ys0, he, hW, hl, hn, hk => by
    have hll : ys.length = ys0.length + (ys1.length + 1) := by rw [he]; simp
    have hmw : ys0.length * W + W ≤ ys.length * W := by
      have := Nat.mul_le_mul_right W (show ys0.length + 1 ≤ ys.length by omega)
      rw [Nat.add_mul] at this; omega
    have hmb : ys.length * W ≤ 1000000 * 64 := Nat.mul_le_mul hl hW
    have hkk : (x :: ys1).length * (W + 2) = ys1.length * (W + 2) + (W + 2) := by rw [List.length_cons, Nat.add_mul]; omega
    rw [hkk] at hk
    obtain ⟨k', rfl⟩ : ∃ j, k = (j + W + 1) + 1 := ⟨k - W - 2, by omega⟩
    have hrd : rd ys (ys0.length : Int) = x := by rw [he]; exact rd_snoc
    rw [marquetryref13_Pack.l0, if_pos (by omega)]
    have hq := ref_pk_l1 W k' W n 0 ys0.length x (allBits W ys0) ys (allBits_range W ys0) (by omega) hW (by omega) hrd (by rw [allBits_length]; rfl) (by rw [allBits_length]; omega) (by omega) (by rw [allBits_length]; omega)
    have z : ((0 : Nat) : Int) = 0 := rfl
    rw [z] at hq
    rw [hq, w64 (by omega) (by omega)]
    have e : allBits W ys0 ++ bitsFrom x 0 W = allBits W (ys0 ++ [x]) := by simp [allBits]
    have ih := ref_pk_l0 ys1 k' W n ys (ys0 ++ [x]) (by rw [he]; simp) hW hl hn (by omega)
    rw [List.length_append, List.length_singleton] at ih
    rw [e, show (ys0.length : Int) + 1 = ((ys0.length + 1 : Nat) : Int) by omega]
    exact ih
theorem ref_pack {k : Nat} {W : Nat} {ys : List Int} (hW : W ≤ 64) (hl : ys.length ≤ 1000000) (hk : ys.length * (W + 2) + 2 ≤ k) : marquetryref13_Pack.f k (W : Int) ys = some (packB (allBits W ys)) := by
  obtain ⟨k, rfl⟩ : ∃ j, k = j + 1 := ⟨k - 1, by omega⟩
  unfold marquetryref13_Pack.f
  have hmb : ys.length * W ≤ 1000000 * 64 := Nat.mul_le_mul hl hW
  have hm : ((ys.length * W : Nat) : Int) = (W : Int) * (ys.length : Int) := by rw [Int.natCast_mul, Int.mul_comm]
  rw [if_neg (by omega), show decide ((W : Int) > 64) = false from decide_eq_false (by omega), marquetryref13_Pack.j0, if_neg (by decide), ← hm, w64n (by omega : ys.length * W ≤ 1000000000), w64 (a := ((ys.length * W : Nat) : Int) + 7) (by omega) (by omega), Int.tdiv_eq_ediv_of_nonneg (by omega), w64 (by omega) (by omega), if_pos (by omega), if_pos (by omega)]
  have := ref_pk_l0 ys k W ((((ys.length * W : Nat) : Int) + 7) / 8).toNat ys [] rfl hW hl (by omega) (by omega)
  have e : allBits W [] = [] := rfl
  rw [e, packB_zero] at this
  have z : (([] : List Int).length : Int) = 0 := rfl
  rw [z] at this
  refine Eq.trans (show _ = _ from this) ?_
  congr 1
  unfold packB
  rw [allBits_length]
  congr 2
end Go.Proofs.Ytcdephhplmcmjaa.D13
end

section
namespace Go.Proofs.Ytcdephhplmcmjaa.D13
set_option linter.unusedVariables false
set_option linter.unusedSimpArgs false
open Go.RowKit Go.Proofs.Ytcdephhplmcmjaa.X Go.Proofs.YtcdephhplmcmjaaW.PrintWords Go.Proofs.YtcdephhplmcmjaaW.PrintLast Go.Proofs.YtcdephhplmcmjaaW.PrintMore Go.Proofs.Ytcdephhplmcmjaa.Bx Go.Proofs.Ytcdephhplmcmjaa.Nx Go.Proofs.Ytcdephhplmcmjaa.Px
def StR (B : List Int) (at_ wrong : Int) : Except Int (List Int) → Prop
  | .ok r => wrong = 0 ∧ 0 ≤ at_ ∧ at_ ≤ B.length ∧ B.drop at_.toNat = r
  | .error x => wrong = x ∧ x ≠ 0
def OutR {α : Type} (B : List Int) (val : α → Int) (res : Except Int (α × List Int)) (v at_ wrong : Int) : Prop :=
  match res with
  | .ok (y, r) => v = val y ∧ StR B at_ wrong (.ok r)
  | .error x => StR B at_ wrong (.error x)
theorem next_wrong {k : Nat} {B : List Int} {at_ wrong : Int} (hk : 1 ≤ k) (h : wrong ≠ 0) : marquetryref13_Reader_next.f k B at_ wrong = some (0, at_, wrong) := by
  obtain ⟨k, rfl⟩ : ∃ j, k = j + 1 := ⟨k - 1, by omega⟩
  unfold marquetryref13_Reader_next.f
  rw [if_neg h, marquetryref13_Reader_next.j0, if_neg (by decide), if_neg h]
theorem next_nil {k : Nat} {B : List Int} {at_ : Int} (hk : 1 ≤ k) (h : (B.length : Int) ≤ at_) : marquetryref13_Reader_next.f k B at_ 0 = some (0, at_, 6) := by
  obtain ⟨k, rfl⟩ : ∃ j, k = j + 1 := ⟨k - 1, by omega⟩
  unfold marquetryref13_Reader_next.f
  rw [if_pos rfl, decide_eq_true h, marquetryref13_Reader_next.j0, if_pos rfl]
  unfold marquetryref13_Reader_fail.f
  rw [if_pos rfl, Option.bind_some, if_neg (show ¬ ((6 : Int) = 0) by decide)]
theorem next_one {k : Nat} {B : List Int} {a : Nat} (hk : 1 ≤ k) (h : a < B.length) (hl : B.length ≤ 1000000000) : marquetryref13_Reader_next.f k B (a : Int) 0 = some (rd B (a : Int), ((a + 1 : Nat) : Int), 0) := by
  obtain ⟨k, rfl⟩ : ∃ j, k = j + 1 := ⟨k - 1, by omega⟩
  have e1 : ¬ ((a : Int) ≥ (B.length : Int)) := by omega
  have c1 : (0 : Int) ≤ (a : Int) := by omega
  have c2 : (a : Int) < (B.length : Int) := by omega
  have w1 : wrap64 ((a : Int) + 1) = ((a + 1 : Nat) : Int) := w64s (by omega)
  have w2 : wrap64 (((a + 1 : Nat) : Int) - 1) = (a : Int) := by
    clear w1
    rw [w64 (by omega) (by omega)]; omega
  unfold marquetryref13_Reader_next.f
  rw [if_pos rfl, decide_eq_false e1, marquetryref13_Reader_next.j0, if_neg (by decide), if_pos rfl, w1, w2, if_pos c1, if_pos c2]
theorem drop_rd {B : List Int} {a : Nat} (h : a < B.length) : B.drop a = rd B (a : Int) :: B.drop (a + 1) := by
  rw [List.drop_eq_getElem_cons h, rd_lt B a h]
theorem num_wrong {k : Nat} {B : List Int} {at_ wrong : Int} (hk : 2 ≤ k) (h : wrong ≠ 0) : marquetryref13_Reader_number.f k B at_ wrong = some (0, at_, wrong) := by
  obtain ⟨k, rfl⟩ : ∃ j, k = j + 1 := ⟨k - 1, by omega⟩
  unfold marquetryref13_Reader_number.f
  rw [marquetryref13_Reader_number.l0, if_pos (by decide), next_wrong (by omega) h, Option.bind_some, if_neg h]
theorem numN_step {n c : Int} {j : Nat} (hj : j ≤ 9) (h0 : 0 ≤ n) (h1 : n < 2 ^ (7 * j)) (c0 : 0 ≤ c) (c1 : c ≤ 255) (hc : 7 * j < 63 ∨ c < 2) :
    IntKind.u64.wrap (n + shl .u64 (IntKind.u64.wrap (Int.tmod c 128)) ((7 * j : Nat) : Int)) = numN n c (7 * j) ∧ numN n c (7 * j) = n + c % 128 * 2 ^ (7 * j) ∧ n + c % 128 * 2 ^ (7 * j) < 18446744073709551616 := by
  have hP : (0 : Int) < 2 ^ (7 * j) := Int.pow_pos (by decide)
  have hb : c % 128 * 2 ^ (7 * j) < 18446744073709551616 ∧ n + c % 128 * 2 ^ (7 * j) < 18446744073709551616 := by
    have hjj : j = 0 ∨ j = 1 ∨ j = 2 ∨ j = 3 ∨ j = 4 ∨ j = 5 ∨ j = 6 ∨ j = 7 ∨ j = 8 ∨ j = 9 := by omega
    rcases hjj with rfl | rfl | rfl | rfl | rfl | rfl | rfl | rfl | rfl | rfl <;> simp only [Nat.reduceMul, Int.reducePow] at h1 hc ⊢ <;> omega
  have e1 : Int.tmod c 128 = c % 128 := Int.tmod_eq_emod_of_nonneg c0
  have e2 : shl .u64 (c % 128) ((7 * j : Nat) : Int) = c % 128 * 2 ^ (7 * j) := by
    unfold shl
    rw [show min (((7 * j : Nat) : Int)).toNat IntKind.u64.bits = 7 * j from by show min _ 64 = _; omega, u64w]
    have : 0 ≤ c % 128 * 2 ^ (7 * j) := Int.mul_nonneg (by omega) (by omega)
    exact Int.emod_eq_of_lt this hb.1
  have hm : 0 ≤ c % 128 * 2 ^ (7 * j) := Int.mul_nonneg (by omega) (by omega)
  have hn := numN_eq (n := n) (x := c) (j := j) h0 h1 c0 c1 hb.1 (by omega)
  refine ⟨?_, hn, hb.2⟩
  rw [e1, u64w (c % 128), show c % 128 % 18446744073709551616 = c % 128 by omega, e2, hn, u64w]
  exact Int.emod_eq_of_lt (by omega) hb.2
theorem num_ref : ∀ (d j k a : Nat) (B : List Int) (n : Int), 9 ≤ j + d → j ≤ 9 → 2 * d + 4 ≤ k → a ≤ B.length → B.length ≤ 1000000000 → (∀ x ∈ B, 0 ≤ x ∧ x ≤ 255) → 0 ≤ n → n < 2 ^ (7 * j) →
    ∃ v at_ wrong, marquetryref13_Reader_number.l0 k n ((7 * j : Nat) : Int) B (a : Int) 0 = some (v, at_, wrong) ∧ OutR B id (numS (7 * j) n (B.drop a)) v at_ wrong
  | d, j, k, a, B, n, hd, hj, hk, ha, hl, hu, h0, h1 => by
    obtain ⟨k, rfl⟩ : ∃ i, k = i + 2 := ⟨k - 2, by omega⟩
    have hlt : ((7 * j : Nat) : Int) < 70 := by omega
    rw [marquetryref13_Reader_number.l0, if_pos hlt]
    by_cases hab : a < B.length
    · have hc := hu (rd B (a : Int)) (by rw [rd_lt B a hab]; exact List.getElem_mem _)
      have hnx := next_one (k := k + 1) (by omega) hab hl
      have hdr := drop_rd hab
      obtain ⟨c, hcc⟩ : ∃ c, c = rd B (a : Int) := ⟨_, rfl⟩
      rw [← hcc] at hc hnx hdr
      rw [hnx, Option.bind_some, hdr, numS]
      simp only []
      rw [if_pos trivial]
      have hge : (0 : Int) ≤ ((7 * j : Nat) : Int) := by omega
      by_cases hf : (7 * j < 63 ∨ c < 2) ∧ (7 * j = 0 ∨ 0 < c)
      · obtain ⟨s1, s2, s3⟩ := numN_step hj h0 h1 hc.1 hc.2 hf.1
        have hfal : marquetryref13_Reader_number.j1 (k + 1) n ((7 * j : Nat) : Int) c false B ((a + 1 : Nat) : Int) 0 = if c < 128 then some (numN n c (7 * j), ((a + 1 : Nat) : Int), 0) else marquetryref13_Reader_number.l0 k (numN n c (7 * j)) (wrap64 (((7 * j : Nat) : Int) + 7)) B ((a + 1 : Nat) : Int) 0 := by
          rw [marquetryref13_Reader_number.j1, if_neg (by decide), if_pos hge, s1]
        have hall : (if ((7 * j : Nat) : Int) = 63 then (if c > 1 then (marquetryref13_Reader_number.j1 (k + 1) n ((7 * j : Nat) : Int) c true B ((a + 1 : Nat) : Int) 0) else (if ((7 * j : Nat) : Int) > 0 then (marquetryref13_Reader_number.j1 (k + 1) n ((7 * j : Nat) : Int) c (c == 0) B ((a + 1 : Nat) : Int) 0) else (marquetryref13_Reader_number.j1 (k + 1) n ((7 * j : Nat) : Int) c false B ((a + 1 : Nat) : Int) 0))) else (if ((7 * j : Nat) : Int) > 0 then (marquetryref13_Reader_number.j1 (k + 1) n ((7 * j : Nat) : Int) c (c == 0) B ((a + 1 : Nat) : Int) 0) else (marquetryref13_Reader_number.j1 (k + 1) n ((7 * j : Nat) : Int) c false B ((a + 1 : Nat) : Int) 0))) = marquetryref13_Reader_number.j1 (k + 1) n ((7 * j : Nat) : Int) c false B ((a + 1 : Nat) : Int) 0 := by
          have hcz : ((7 * j : Nat) : Int) > 0 → (c == 0) = false := fun h => beq_eq_false_iff_ne.2 (by omega)
          by_cases e : ((7 * j : Nat) : Int) = 63
          · rw [if_pos e, if_neg (by omega)]
            by_cases g : ((7 * j : Nat) : Int) > 0
            · rw [if_pos g, hcz g]
            · rw [if_neg g]
          · rw [if_neg e]
            by_cases g : ((7 * j : Nat) : Int) > 0
            · rw [if_pos g, hcz g]
            · rw [if_neg g]
        rw [hall, hfal, if_pos hf]
        by_cases c128 : c < 128
        · rw [if_pos c128, if_pos c128]
          exact ⟨_, _, _, rfl, rfl, rfl, by omega, by omega, rfl⟩
        · rw [if_neg c128, if_neg c128]
          have hj9 : j < 9 := by omega
          obtain ⟨d, rfl⟩ : ∃ i, d = i + 1 := ⟨d - 1, by omega⟩
          have hlt2 : numN n c (7 * j) < 2 ^ (7 * (j + 1)) := by
            have hq : (2 : Int) ^ (7 * (j + 1)) = 128 * 2 ^ (7 * j) := by rw [show 7 * (j + 1) = 7 * j + 7 by omega, Int.pow_add]; rw [Int.mul_comm]; rfl
            have hP : (0 : Int) < 2 ^ (7 * j) := Int.pow_pos (by decide)
            have h3 : c % 128 * 2 ^ (7 * j) ≤ 127 * 2 ^ (7 * j) := Int.mul_le_mul_of_nonneg_right (by omega) (by omega)
            rw [s2, hq]
            omega
          have hge2 : 0 ≤ numN n c (7 * j) := (numN_range n c (7 * j)).1
          have ew : wrap64 (((7 * j : Nat) : Int) + 7) = ((7 * (j + 1) : Nat) : Int) := by rw [w64 (by omega) (by omega)]; omega
          obtain ⟨v, at_, wrong, g1, g2⟩ := num_ref d (j + 1) k (a + 1) B (numN n c (7 * j)) (by omega) (by omega) (by omega) (by omega) hl hu hge2 hlt2
          rw [ew]
          rw [show 7 * j + 7 = 7 * (j + 1) by omega]
          exact ⟨v, at_, wrong, g1, g2⟩
      · have htru : marquetryref13_Reader_number.j1 (k + 1) n ((7 * j : Nat) : Int) c true B ((a + 1 : Nat) : Int) 0 = some (0, ((a + 1 : Nat) : Int), 8) := by
          rw [marquetryref13_Reader_number.j1, if_pos rfl]
          unfold marquetryref13_Reader_fail.f
          rw [if_pos rfl]; rfl
        rw [if_neg hf]
        refine ⟨0, ((a + 1 : Nat) : Int), 8, ?_, ⟨rfl, by decide⟩⟩
        by_cases e : ((7 * j : Nat) : Int) = 63
        · rw [if_pos e]
          by_cases g : c > 1
          · rw [if_pos g]; exact htru
          · rw [if_neg g, if_pos (by omega), show (c == 0) = true from beq_iff_eq.2 (by omega)]; exact htru
        · rw [if_neg e, if_pos (by omega), show (c == 0) = true from beq_iff_eq.2 (by omega)]; exact htru
    · rw [next_nil (by omega) (by omega), Option.bind_some, List.drop_of_length_le (by omega)]
      exact ⟨0, (a : Int), 6, by simp, rfl, by decide⟩
theorem number_ref {k a : Nat} {B : List Int} (hk : 40 ≤ k) (ha : a ≤ B.length) (hl : B.length ≤ 1000000000) (hu : ∀ x ∈ B, 0 ≤ x ∧ x ≤ 255) : ∃ v at_ wrong, marquetryref13_Reader_number.f k B (a : Int) 0 = some (v, at_, wrong) ∧ OutR B id (numS 0 0 (B.drop a)) v at_ wrong :=
  num_ref 9 0 k a B 0 (by omega) (by omega) (by omega) ha hl hu (by omega) (by simp)
theorem numS_val {b : List Int} {v : Int} {r : List Int} (h : numS 0 0 b = .ok (v, r)) : 0 ≤ v ∧ v ≤ 18446744073709551615 := by
  have := numS_range _ _ _ _ _ h; omega
theorem sgn_ref {v : Int} (h0 : 0 ≤ v) (h1 : v ≤ 18446744073709551615) : (if Int.tmod v 2 = 1 then wrap64 (wrap64 (-wrap64 (IntKind.u64.wrap (Int.tdiv v 2))) - 1) else wrap64 (IntKind.u64.wrap (Int.tdiv v 2))) = sgnV v := by
  rw [sgnV_eq h0 h1, tmod_u64 2 h0, u64_tdiv 2 h0 h1 (by decide)]
  by_cases c : v % 2 = 0
  · rw [if_pos c, if_neg (by omega), w64 (by omega) (by omega)]
  · rw [if_neg c, if_pos (by omega), w64 (a := v / 2) (by omega) (by omega), w64 (a := -(v / 2)) (by omega) (by omega), w64 (by omega) (by omega)]
theorem signed_ref {k a : Nat} {B : List Int} (hk : 40 ≤ k) (ha : a ≤ B.length) (hl : B.length ≤ 1000000000) (hu : ∀ x ∈ B, 0 ≤ x ∧ x ≤ 255) : ∃ v at_ wrong, marquetryref13_Reader_signed.f k B (a : Int) 0 = some (v, at_, wrong) ∧ OutR B id (mapS sgnV (numS 0 0 (B.drop a))) v at_ wrong := by
  obtain ⟨v, at_, wrong, h1, h2⟩ := number_ref hk ha hl hu
  unfold marquetryref13_Reader_signed.f
  rw [h1, Option.bind_some]
  cases hr : numS 0 0 (B.drop a) with
  | error x =>
    rw [hr] at h2
    by_cases c : Int.tmod v 2 = 1
    · exact ⟨wrap64 (wrap64 (-wrap64 (IntKind.u64.wrap (Int.tdiv v 2))) - 1), at_, wrong, by simp only []; rw [if_pos c], h2⟩
    · exact ⟨wrap64 (IntKind.u64.wrap (Int.tdiv v 2)), at_, wrong, by simp only []; rw [if_neg c], h2⟩
  | ok p =>
    obtain ⟨y, r⟩ := p
    rw [hr] at h2
    obtain ⟨hv, hs⟩ : v = y ∧ StR B at_ wrong (.ok r) := h2
    subst hv
    have hrg := numS_val hr
    have hsg := sgn_ref hrg.1 hrg.2
    refine ⟨sgnV v, at_, wrong, ?_, rfl, hs⟩
    rw [← hsg]
    simp only []
    by_cases c : Int.tmod v 2 = 1
    · rw [if_pos c, if_pos c]
    · rw [if_neg c, if_neg c]
theorem signed_wrong {k : Nat} {B : List Int} {at_ wrong : Int} (hk : 2 ≤ k) (h : wrong ≠ 0) : ∃ v, marquetryref13_Reader_signed.f k B at_ wrong = some (v, at_, wrong) := by
  unfold marquetryref13_Reader_signed.f
  rw [num_wrong hk h, Option.bind_some]
  exact ⟨wrap64 (IntKind.u64.wrap (Int.tdiv 0 2)), by simp only []; rw [if_neg (by decide)]⟩
end Go.Proofs.Ytcdephhplmcmjaa.D13
end

section
namespace Go.Proofs.Ytcdephhplmcmjaa.X
open Go.RowKit Go.Proofs.YtcdephhplmcmjaaW.PrintWords Go.Proofs.YtcdephhplmcmjaaW.PrintLast Go.Proofs.YtcdephhplmcmjaaW.PrintMore
set_option linter.unusedVariables false
set_option linter.unusedSimpArgs false
def ErrS {α : Type} (res : Except Int (α × List Int)) : Prop := ∀ x, res = .error x → x = 6 ∨ x = 8
theorem ErrS.ok {α : Type} (v : α) (b : List Int) : ErrS (.ok (v, b)) := fun _ h => by cases h
theorem ErrS.e8 {α : Type} : ErrS (.error 8 : Except Int (α × List Int)) := fun _ h => by cases h; exact .inr rfl
theorem ErrS.and {α β : Type} {r : Except Int (α × List Int)} {k : α → List Int → Except Int (β × List Int)} (h : ErrS r) (hk : ∀ v b, ErrS (k v b)) : ErrS (andS r k) := by
  intro x hx
  cases r with
  | error y => rw [andS_err] at hx; cases hx; exact h _ rfl
  | ok p => exact hk p.1 p.2 x hx
theorem ErrS.map {α β : Type} {f : α → β} {r : Except Int (α × List Int)} (h : ErrS r) : ErrS (mapS f r) := by
  intro x hx
  cases r with
  | error y => simp [mapS] at hx; subst hx; exact h _ rfl
  | ok p => simp [mapS] at hx
theorem byteS_err (b : List Int) : ErrS (byteS b) := by
  intro x h
  cases b with
  | nil => simp [byteS] at h; exact .inl h.symm
  | cons c b => simp [byteS] at h
theorem numS_err : ∀ (b : List Int) (sh : Nat) (n : Int), ErrS (numS sh n b)
  | [], sh, n => fun x h => by simp [numS] at h; exact .inl h.symm
  | c :: b, sh, n => by
    rw [numS]
    split
    · split
      · exact ErrS.ok _ _
      · exact numS_err b _ _
    · exact ErrS.e8
theorem packedS_err (w : Nat) (b : List Int) : ErrS (packedS w b) := by
  unfold packedS
  split
  · exact ErrS.ok _ _
  · intro x h; cases h; exact .inl rfl
theorem widS_err (n fr : Int) : ∀ (k i : Nat) (b : List Int), ErrS (widS n fr k i b)
  | 0, i, b => ErrS.ok _ _
  | k + 1, i, b => by
    rw [widS]
    refine ErrS.and (byteS_err b) fun v r => ?_
    split
    · exact ErrS.and (widS_err n fr k _ r) fun v r => ErrS.ok _ _
    · exact ErrS.e8
theorem partsS_err (n fr least : Int) : ∀ (ws : List Int) (i : Nat) (l b : List Int), ErrS (partsS n fr least ws i l b)
  | [], i, l, b => ErrS.ok _ _
  | w :: ws, i, l, b => by
    rw [partsS]
    split
    · exact ErrS.ok _ _
    · exact ErrS.and (packedS_err _ b) fun v r => partsS_err n fr least ws _ _ r
theorem loopS_err (n : Int) : ∀ (k : Nat) (fr : Int) (l b : List Int), ErrS (loopS n k fr l b)
  | 0, fr, l, b => ErrS.ok _ _
  | k + 1, fr, l, b => by
    rw [loopS]
    split
    · exact ErrS.and (ErrS.map (numS_err b _ _)) fun v r => ErrS.and (widS_err n fr 4 0 r) fun v2 r2 => ErrS.and (partsS_err _ _ _ _ _ _ r2) fun v3 r3 => loopS_err n k _ _ r3
    · exact ErrS.ok _ _
theorem listS_err (b : List Int) : ErrS (listS b) := by
  unfold listS wantS
  refine ErrS.and (numS_err b _ _) fun v r => ?_
  split
  · refine ErrS.and (numS_err r _ _) fun v2 r2 => ?_
    split
    · unfold tailS
      refine ErrS.and (numS_err r2 _ _) fun v3 r3 => ?_
      split
      · refine ErrS.and (ErrS.map (numS_err r3 _ _)) fun v4 r4 => ?_
        split
        · split
          · exact ErrS.ok _ _
          · exact loopS_err _ _ _ _ r4
        · exact ErrS.e8
      · exact ErrS.e8
    · exact ErrS.e8
  · exact ErrS.e8
end Go.Proofs.Ytcdephhplmcmjaa.X
end

section
namespace Go.Proofs.Ytcdephhplmcmjaa.X
open Go.RowKit Go.Proofs.YtcdephhplmcmjaaW.PrintWords Go.Proofs.YtcdephhplmcmjaaW.PrintLast Go.Proofs.YtcdephhplmcmjaaW.PrintMore Go.Proofs.Ytcdephhplmcmjaa.D13
set_option linter.unusedVariables false
set_option linter.unusedSimpArgs false
def RfI (w0 : World) (g : Nat) (B : List Int) (st : Except Int (List Int)) (W : World) : Prop :=
  ∃ at_ wrong, IsS87 w0 W g B at_ wrong ∧ StR B at_ wrong st ∧ Below w0.heap.size w0 W
def stepR {α : Type} (P : List Int → Except Int (α × List Int)) : Except Int (List Int) → Except Int (α × List Int)
  | .ok r => P r
  | .error x => .error x
def RfO {α : Type} (w0 : World) (g : Nat) (B : List Int) (W : World) (val : Int → Value) (f : α → Int) (res : Except Int (α × List Int)) (e : Ending) (W' : World) : Prop :=
  ∃ v, e = .returned (val v) ∧ KeepBut W W' g none ∧ match res with
    | .ok (y, r) => v = f y ∧ RfI w0 g B (.ok r) W'
    | .error x => RfI w0 g B (.error x) W'
theorem stR_ok {B : List Int} {at_ wrong : Int} {r : List Int} (h : StR B at_ wrong (.ok r)) : wrong = 0 ∧ ∃ a : Nat, at_ = (a : Int) ∧ a ≤ B.length ∧ B.drop a = r := by
  obtain ⟨h1, h2, h3, h4⟩ := h
  exact ⟨h1, at_.toNat, by omega, by omega, h4⟩
theorem rf_out {w0 W W' : World} {g : Nat} {B : List Int} {val : Int → Value} {res : Except Int (Int × List Int)} {v at_ wrong : Int} (ho : OutR B id res v at_ wrong) (hI : IsS87 w0 W' g B at_ wrong) (hB : Below w0.heap.size w0 W') (hK : KeepBut W W' g none) : RfO w0 g B W val id res (.returned (val v)) W' := by
  refine ⟨v, rfl, hK, ?_⟩
  cases res with
  | error x => exact ⟨at_, wrong, hI, ho, hB⟩
  | ok p => exact ⟨ho.1, at_, wrong, hI, ho.2, hB⟩
theorem rf_number (w0 : World) (g : Nat) (B : List Int) (st : Except Int (List Int)) (W : World) (hl : B.length ≤ 1000000000) (hu : ∀ x ∈ B, 0 ≤ x ∧ x ≤ 255) (h : RfI w0 g B st W) :
    Calls Try.prog 54 #[.pointer (some ⟨g, 0, none⟩)] W (RfO w0 g B W (Value.int .u64) id (stepR (numS 0 0) st)) := by
  obtain ⟨at_, wrong, hI, hs, hB⟩ := h
  cases st with
  | error x =>
    obtain ⟨rfl, hx⟩ := hs
    refine (marquetryref13_Reader_number.calls 40 g B at_ wrong _ _ _ w0 W hI hB (num_wrong (by decide) hx)).mono ?_
    rintro e W' ⟨rfl, hI', hB', hK⟩
    exact ⟨0, rfl, hK, at_, wrong, hI', ⟨rfl, hx⟩, hB'⟩
  | ok r =>
    obtain ⟨rfl, a, rfl, ha, rfl⟩ := stR_ok hs
    obtain ⟨v, at2, wrong2, h1, h2⟩ := number_ref (k := 40) (by decide) ha hl hu
    refine (marquetryref13_Reader_number.calls 40 g B a 0 v at2 wrong2 w0 W hI hB h1).mono ?_
    rintro e W' ⟨rfl, hI', hB', hK⟩
    exact rf_out h2 hI' hB' hK
theorem rf_signed (w0 : World) (g : Nat) (B : List Int) (st : Except Int (List Int)) (W : World) (hl : B.length ≤ 1000000000) (hu : ∀ x ∈ B, 0 ≤ x ∧ x ≤ 255) (h : RfI w0 g B st W) :
    Calls Try.prog 56 #[.pointer (some ⟨g, 0, none⟩)] W (RfO w0 g B W (Value.int .i64) id (stepR (fun b => mapS sgnV (numS 0 0 b)) st)) := by
  obtain ⟨at_, wrong, hI, hs, hB⟩ := h
  cases st with
  | error x =>
    obtain ⟨rfl, hx⟩ := hs
    obtain ⟨v, hv⟩ := signed_wrong (k := 40) (B := B) (at_ := at_) (by decide) hx
    refine (marquetryref13_Reader_signed.calls 40 g B at_ wrong _ _ _ w0 W hI hB hv).mono ?_
    rintro e W' ⟨rfl, hI', hB', hK⟩
    exact ⟨v, rfl, hK, at_, wrong, hI', ⟨rfl, hx⟩, hB'⟩
  | ok r =>
    obtain ⟨rfl, a, rfl, ha, rfl⟩ := stR_ok hs
    obtain ⟨v, at2, wrong2, h1, h2⟩ := signed_ref (k := 40) (by decide) ha hl hu
    refine (marquetryref13_Reader_signed.calls 40 g B a 0 v at2 wrong2 w0 W hI hB h1).mono ?_
    rintro e W' ⟨rfl, hI', hB', hK⟩
    exact rf_out h2 hI' hB' hK
def mustR (b : Bool) : Except Int (List Int) → Except Int (List Int)
  | .ok r => if b = true then .ok r else .error 8
  | .error x => .error x
theorem rf_must (w0 : World) (g : Nat) (B : List Int) (st : Except Int (List Int)) (b : Bool) (W : World) (h : RfI w0 g B st W) :
    Calls Try.prog 55 #[.pointer (some ⟨g, 0, none⟩), .bool b] W fun e W' => e = .returned (.tuple #[]) ∧ KeepBut W W' g none ∧ RfI w0 g B (mustR b st) W' := by
  obtain ⟨at_, wrong, hI, hs, hB⟩ := h
  have hm : marquetryref13_Reader_must.f B at_ wrong b = some (at_, if b = true then wrong else if wrong = 0 then 8 else wrong) := by
    unfold marquetryref13_Reader_must.f marquetryref13_Reader_fail.f
    cases b with
    | true => rfl
    | false =>
      by_cases c : wrong = 0
      · subst c; rfl
      · simp [c]
  refine (marquetryref13_Reader_must.calls g B at_ wrong b _ _ w0 W hI hB hm).mono ?_
  rintro e W' ⟨rfl, hI', hB', hK⟩
  refine ⟨rfl, hK, at_, _, hI', ?_, hB'⟩
  cases st with
  | error x =>
    obtain ⟨rfl, hx⟩ := hs
    cases b with
    | true => exact ⟨rfl, hx⟩
    | false => exact ⟨by rw [if_neg (by decide), if_neg hx], hx⟩
  | ok r =>
    obtain ⟨rfl, h2, h3, h4⟩ := hs
    cases b with
    | true => exact ⟨rfl, h2, h3, h4⟩
    | false => exact ⟨rfl, by decide⟩
end Go.Proofs.Ytcdephhplmcmjaa.X
end

section
namespace Go.Proofs.Ytcdephhplmcmjaa.D13
set_option linter.unusedVariables false
set_option linter.unusedSimpArgs false
open Go.RowKit Go.Proofs.Ytcdephhplmcmjaa.X Go.Proofs.YtcdephhplmcmjaaW.PrintWords Go.Proofs.YtcdephhplmcmjaaW.PrintLast Go.Proofs.YtcdephhplmcmjaaW.PrintMore Go.Proofs.Ytcdephhplmcmjaa.Bx Go.Proofs.Ytcdephhplmcmjaa.Nx Go.Proofs.Ytcdephhplmcmjaa.Px
theorem add_halves {a b u v : Int} (ha : 0 ≤ u) (hu : u < 4294967296) (hv : 0 ≤ v) (hv1 : v < 4294967296) (h : (u * 4294967296 + v - (a + b)) % 18446744073709551616 = 0) : marquetryref13_whole.f u v = some (wrap64 (a + b)) := by
  rw [ref_whole ha hu hv hv1]
  congr 1
  unfold wrap64
  omega
theorem ref_add {a b : Int} (ha : inI a) (hb : inI b) : marquetryref13_Add.f a b = some (wrap64 (a + b)) := by
  unfold marquetryref13_Add.f
  rw [ref_halves ha, Option.bind_some, ref_halves hb, Option.bind_some]
  simp only []
  obtain ⟨A, hA⟩ : ∃ A, A = a / 4294967296 := ⟨_, rfl⟩
  obtain ⟨B, hB⟩ : ∃ B, B = b / 4294967296 := ⟨_, rfl⟩
  obtain ⟨x, hx⟩ : ∃ x, x = a % 4294967296 := ⟨_, rfl⟩
  obtain ⟨y, hy⟩ : ∃ y, y = b % 4294967296 := ⟨_, rfl⟩
  have ea : a = A * 4294967296 + x := by omega
  have eb : b = B * 4294967296 + y := by omega
  have rA : -2147483648 ≤ A ∧ A < 2147483648 := by obtain ⟨h1, h2⟩ := ha; omega
  have rB : -2147483648 ≤ B ∧ B < 2147483648 := by obtain ⟨h1, h2⟩ := hb; omega
  have rx : 0 ≤ x ∧ x < 4294967296 := by omega
  have ry : 0 ≤ y ∧ y < 4294967296 := by omega
  rw [← hA, ← hB, ← hx, ← hy]
  clear hA hB hx hy ha hb
  obtain ⟨P, hP⟩ : ∃ P, P = A % 4294967296 := ⟨_, rfl⟩
  obtain ⟨Q, hQ⟩ : ∃ Q, Q = B % 4294967296 := ⟨_, rfl⟩
  have rP : 0 ≤ P ∧ P < 4294967296 := by omega
  have rQ : 0 ≤ Q ∧ Q < 4294967296 := by omega
  rw [← hP, ← hQ]
  have w1 : wrap64 (x + y) = x + y := w64 (by omega) (by omega)
  have w2 : wrap64 (P + Q) = P + Q := w64 (by omega) (by omega)
  have w3 : wrap64 (P + Q + 1) = P + Q + 1 := w64 (by omega) (by omega)
  have w4 : wrap64 (P + Q + 1 - 4294967296) = P + Q + 1 - 4294967296 := w64 (by omega) (by omega)
  have w5 : wrap64 (x + y - 4294967296) = x + y - 4294967296 := w64 (by omega) (by omega)
  have w6 : wrap64 (P + Q - 4294967296) = P + Q - 4294967296 := w64 (by omega) (by omega)
  rw [w1, w2, w3, w4, w5, w6, ea, eb]
  clear w1 w2 w3 w4 w5 w6 ea eb
  by_cases c : x + y ≥ 4294967296
  · rw [if_pos c]
    by_cases c2 : P + Q + 1 ≥ 4294967296
    · rw [if_pos c2, add_halves (a := A * 4294967296 + x) (b := B * 4294967296 + y) (by omega) (by omega) (by omega) (by omega) (by omega)]; rfl
    · rw [if_neg c2, add_halves (a := A * 4294967296 + x) (b := B * 4294967296 + y) (by omega) (by omega) (by omega) (by omega) (by omega)]; rfl
  · rw [if_neg c]
    by_cases c2 : P + Q ≥ 4294967296
    · rw [if_pos c2, add_halves (a := A * 4294967296 + x) (b := B * 4294967296 + y) (by omega) (by omega) (by omega) (by omega) (by omega)]; rfl
    · rw [if_neg c2, add_halves (a := A * 4294967296 + x) (b := B * 4294967296 + y) (by omega) (by omega) (by omega) (by omega) (by omega)]; rfl
theorem or_in (x y : Int) : inI (bits .or .i64 x y) := by
  show inI (IntKind.i64.wrap _)
  rw [IntKind.wrap_i64]
  unfold inI
  omega
theorem pkF_in (bs : List Int) (s : Nat) : ∀ k, inI (pkF bs s k)
  | 0 => ⟨by show (-9223372036854775808 : Int) ≤ 0; omega, by show (0 : Int) ≤ 9223372036854775807; omega⟩
  | k + 1 => or_in _ _
theorem packedV_in (bs : List Int) (w : Nat) : ∀ x ∈ packedV bs w, inI x := by
  intro x hx
  obtain ⟨i, _, rfl⟩ := List.mem_map.1 hx
  exact pkF_in _ _ _
theorem or_zero_i64 {x : Int} (h : inI x) : bits .or .i64 x 0 = x := by
  show IntKind.i64.wrap ((BitVec.ofInt 64 x ||| BitVec.ofInt 64 0).toNat : Int) = x
  have e : BitVec.ofInt 64 0 = 0#64 := by decide
  rw [e, BitVec.or_zero, toNat64, IntKind.wrap_i64]
  obtain ⟨h1, h2⟩ := h
  omega
theorem pk_bit {bs : List Int} (hu : ∀ x ∈ bs, 0 ≤ x ∧ x ≤ 255) (j : Nat) : bits .and .u8 (bs.getD (j / 8) 0 / 2 ^ (j % 8)) 1 = pkBit bs j ∧ (pkBit bs j = 0 ∨ pkBit bs j = 1) := by
  have h2 := bt_range bs j
  refine ⟨?_, by rw [pkBit_eq hu]; exact h2⟩
  have := shr_range (t := j % 8) (getD_u8 hu (j / 8))
  rw [pkBit_eq hu, and_one_u8 _ this.1 this.2]
  rfl
theorem pk_one {bs : List Int} {s k : Nat} (h : pkBit bs (s + k) = 1) : pkF bs s (k + 1) = bits .or .i64 (pkF bs s k) (wrap64 (1 * 2 ^ k)) := by rw [pkF, h]
theorem pk_none {bs : List Int} {s k : Nat} (h : pkBit bs (s + k) = 0) : pkF bs s (k + 1) = pkF bs s k := by
  rw [pkF, h, Int.zero_mul, show wrap64 0 = 0 from w64 (by omega) (by omega), or_zero_i64 (pkF_in _ _ _)]
end Go.Proofs.Ytcdephhplmcmjaa.D13
end

section
namespace Go.Proofs.Ytcdephhplmcmjaa.X
open Go.RowKit Go.Proofs.YtcdephhplmcmjaaW.PrintWords Go.Proofs.YtcdephhplmcmjaaW.PrintLast Go.Proofs.YtcdephhplmcmjaaW.PrintMore Go.Proofs.Ytcdephhplmcmjaa.D13
set_option linter.unusedVariables false
set_option linter.unusedSimpArgs false
def RpO (w0 : World) (g : Nat) (B : List Int) (W : World) (res : Except Int (List Int × List Int)) (e : Ending) (W' : World) : Prop :=
  ∃ (ga : Nat) (xs : List Int), e = .returned (.slice (some ⟨ga, 0, none⟩) 32 32) ∧ KeepBut W W' g none ∧ W.heap.size ≤ ga ∧ xs.length = 32 ∧ (∀ x ∈ xs, D13.inI x) ∧ W'.heap[ga]? = some (.cells (xs.map (Value.int .i64)).toArray 2 (0, 0)) ∧ match res with
    | .ok (ys, r) => xs = ys ∧ RfI w0 g B (.ok r) W'
    | .error x => RfI w0 g B (.error x) W'
theorem meas_up {k w : Nat} (h : k < w) : w - (intOf (.int .i64 ((k : Int) + 1))).toNat < w - (intOf (.int .i64 (k : Int))).toNat := by simp [intOf]; omega
theorem zero32_in : ∀ x ∈ zeros32, D13.inI x := by
  intro x hx
  obtain ⟨_, rfl⟩ := List.mem_replicate.1 hx
  exact ⟨by omega, by omega⟩
set_option maxRecDepth 100000 in
set_option maxHeartbeats 4000000 in
theorem rf_packed_wrong (w0 : World) (g : Nat) (B : List Int) (x : Int) (w : Int) (W : World) (h : RfI w0 g B (.error x) W) :
    Calls Try.prog 58 #[.pointer (some ⟨g, 0, none⟩), .int .i64 w] W (RpO w0 g B W (.error x)) := by
  obtain ⟨at_, wrong, ⟨A0, c0, hb, hg, hC⟩, ⟨rfl, hx⟩, hB⟩ := h
  have c1 := (blk_cell hb 2).trans (show _ = some (.int .i64 wrong) from rfl)
  have q1 : (wrong == 0) = false := beq_eq_false_iff_ne.2 hx
  have HB := Aside0.mk hb
  have HBe := Aside0.mk hB
  have HX := Aside0.mk hx
  have HG := Aside0.mk (And.intro hg hC)
  clear hb hx hg hC hB
  go_enter Try.func58, Try.ntmps58
  go_wp2
  have hmk := print_makeZ
  have c2 : ∀ (n : Nat) (o : Obj), ((W.drewN n).alloc o).cell? ⟨g, 2, none⟩ = some (.int .i64 wrong) := fun n o => (blk_cell (blk_alloc (show (W.drewN n).heap[g]? = _ from HB.out) o) 2).trans rfl
  go_quiet (fail)
  go_wp2
  go_ret
  refine ⟨W.heap.size, zeros32, rfl, KeepBut.of_below (below_alloc (pw_below_drewN (Below.refl _ _) nq) _) g none, Nat.le_refl _, rfl, zero32_in, blk_new _ _, at_, wrong, ⟨A0, c0, blk_alloc (show (W.drewN nq).heap[g]? = _ from HB.out) _, HG.out.1, HG.out.2⟩, ⟨rfl, HX.out⟩, below_alloc (pw_below_drewN HBe.out nq) _⟩
set_option maxRecDepth 100000 in
set_option maxHeartbeats 4000000 in
theorem rf_packed_short (w0 : World) (g : Nat) (B r : List Int) (w : Nat) (W : World) (hl : B.length ≤ 1000000000) (hw : w ≤ 64) (hs : r.length < 4 * w) (h : RfI w0 g B (.ok r) W) :
    Calls Try.prog 58 #[.pointer (some ⟨g, 0, none⟩), .int .i64 (w : Int)] W (RpO w0 g B W (.error 6)) := by
  obtain ⟨at_, wrong, hI, hst, hB⟩ := h
  obtain ⟨rfl, a, rfl, ha, rfl⟩ := stR_ok hst
  obtain ⟨A0, c0, hb, hg, hC⟩ := id hI
  have c1 := (blk_cell hb 2).trans (show _ = some (.int .i64 0) from rfl)
  have c3 := (blk_cell hb 1).trans (show _ = some (.int .i64 (a : Int)) from rfl)
  have c4 := (blk_cell hb 0).trans (show _ = some (.slice A0 B.length c0) from rfl)
  have e1 : IntKind.i64.wrap (4 * (w : Int)) = 4 * (w : Int) := IntWalk.i64_in _ (by omega)
  have e2 : IntKind.i64.wrap ((B.length : Int) - (a : Int)) = (B.length : Int) - (a : Int) := IntWalk.i64_in _ (by omega)
  have q2 : decide (4 * (w : Int) > (B.length : Int) - (a : Int)) = true := decide_eq_true (by rw [List.length_drop] at hs; omega)
  have HF := Aside0.mk (fun (Wz : World) (hI : IsS87 w0 Wz g B a 0) (hB : Below w0.heap.size w0 Wz) => marquetryref13_Reader_fail.calls g B a 0 6 a 6 w0 Wz hI hB rfl)
  have HI := Aside0.mk hI
  have HBe := Aside0.mk hB
  clear hb hg hC hB hI hst hs hl ha
  go_enter Try.func58, Try.ntmps58
  go_wp2
  go_quiet (fail)
  go_wp2_with fail
  refine calls_named fun Wa hWa => ?_
  have hIa : IsS87 w0 Wa g B a 0 := by rw [hWa]; exact IsS87.drewN HI.out _
  have hBa : Below w0.heap.size w0 Wa := by rw [hWa]; exact pw_below_drewN HBe.out _
  have HBa := Aside0.mk (show Below W.heap.size W Wa from (by rw [hWa]; exact pw_below_drewN (Below.refl _ _) _))
  clear hWa
  refine (HF.out Wa hIa hBa).mono ?_
  rintro e W1 ⟨rfl, hI1, hB1, hK1⟩
  clear c1 c3 c4 hIa hBa q2 e1 e2
  obtain ⟨A1, c1, hb, hg, hC⟩ := hI1
  have hc := (blk_cell hb 2).trans (show _ = some (.int .i64 6) from rfl)
  have HB := Aside0.mk hb
  have HBe1 := Aside0.mk hB1
  have HG := Aside0.mk (And.intro hg hC)
  have HK := Aside0.mk (show KeepBut W W1 g none from KeepBut.trans (KeepBut.of_below HBa.out g none) hK1 (.inl rfl))
  clear hb hg hC hB1 hK1
  have hmk := print_makeZ
  have c2 : ∀ (o : Obj), (W1.alloc o).cell? ⟨g, 2, none⟩ = some (.int .i64 6) := fun o => (blk_cell (blk_alloc HB.out o) 2).trans rfl
  go_wp2
  go_ret
  refine ⟨W1.heap.size, zeros32, rfl, KeepBut.trans HK.out (KeepBut.of_below (below_alloc (Below.refl _ _) _) g none) (.inl rfl), HK.out.1, rfl, zero32_in, blk_new _ _, a, 6, ⟨A1, c1, blk_alloc HB.out _, HG.out.1, HG.out.2⟩, ⟨rfl, by decide⟩, below_alloc HBe1.out _⟩
set_option maxRecDepth 100000 in
set_option maxHeartbeats 8000000 in
theorem rf_packed_ok (w0 : World) (g : Nat) (B r : List Int) (w : Nat) (W : World) (hl : B.length ≤ 1000000000) (hu : ∀ x ∈ B, 0 ≤ x ∧ x ≤ 255) (hw : w ≤ 64) (hs : 4 * w ≤ r.length) (h : RfI w0 g B (.ok r) W) :
    Calls Try.prog 58 #[.pointer (some ⟨g, 0, none⟩), .int .i64 (w : Int)] W (RpO w0 g B W (.ok (packedV (r.take (4 * w)) w, r.drop (4 * w)))) := by
  obtain ⟨at_, wrong, hI, hst, hB⟩ := h
  obtain ⟨rfl, a, rfl, ha, rfl⟩ := stR_ok hst
  obtain ⟨A0, c0, hb, hg, hC⟩ := hI
  rw [List.length_drop] at hs
  have HAW := Aside0.mk (show a + 4 * w ≤ B.length ∧ B.length ≤ 1000000000 from ⟨by omega, hl⟩)
  obtain ⟨bs, hbs⟩ : ∃ bs, bs = (B.drop a).take (4 * w) := ⟨_, rfl⟩
  have hbu : ∀ x ∈ bs, 0 ≤ x ∧ x ≤ 255 := fun x hx => hu x (List.mem_of_mem_drop (List.mem_of_mem_take (by rw [← hbs]; exact hx)))
  have hbr : ∀ q, q < 4 * w → bs.getD q 0 = rd B ((a + q : Nat) : Int) := fun q hq => by
    rw [hbs, List.getD_eq_getElem?_getD, List.getElem?_take_of_lt hq, List.getElem?_drop]
    rw [← List.getD_eq_getElem?_getD]; rfl
  rw [← hbs]
  have HBU := Aside0.mk hbu
  have HBR := Aside0.mk hbr
  have c1 := (blk_cell hb 2).trans (show _ = some (.int .i64 0) from rfl)
  have c3 := (blk_cell hb 1).trans (show _ = some (.int .i64 (a : Int)) from rfl)
  have c4 := (blk_cell hb 0).trans (show _ = some (.slice A0 B.length c0) from rfl)
  have e1 : IntKind.i64.wrap (4 * (w : Int)) = 4 * (w : Int) := IntWalk.i64_in _ (by omega)
  have e2 : IntKind.i64.wrap ((B.length : Int) - (a : Int)) = (B.length : Int) - (a : Int) := IntWalk.i64_in _ (by omega)
  have q2 : decide (4 * (w : Int) > (B.length : Int) - (a : Int)) = false := decide_eq_false (by omega)
  have HB := Aside0.mk hb
  have HBe := Aside0.mk hB
  have HG := Aside0.mk (And.intro hg hC)
  have HW := Aside0.mk hw
  obtain ⟨rest, hrest⟩ : ∃ rest, rest = (B.drop a).drop (4 * w) := ⟨_, rfl⟩
  have HREST := Aside0.mk (show B.drop (a + 4 * w) = rest from (by rw [hrest, List.drop_drop]))
  rw [← hrest]
  clear hg hC hB hst hs hl ha hu hw hrest hbs hbu hbr hb
  go_enter Try.func58, Try.ntmps58
  go_wp2
  have hmk := print_makeZ
  have c2 : ∀ (n : Nat) (o : Obj), ((W.drewN n).alloc o).cell? ⟨g, 2, none⟩ = some (.int .i64 0) := fun n o => (blk_cell (blk_alloc (show (W.drewN n).heap[g]? = _ from HB.out) o) 2).trans rfl
  go_quiet (fail)
  go_wp2
  refine wp_named fun W2 hW2 => ?_
  obtain ⟨ga, hga⟩ : ∃ ga, ga = W.heap.size := ⟨_, rfl⟩
  have HGA := Aside0.mk hga
  have HA2 := Aside0.mk (show W2.heap[ga]? = some (.cells ((pkAt bs w 0).map (Value.int .i64)).toArray 2 (0, 0)) from (by rw [hW2, hga]; exact blk_new (W.drewN nq) _))
  have HB2 := Aside0.mk (show Below W.heap.size W W2 from (by rw [hW2]; exact below_alloc (pw_below_drewN (Below.refl _ _) nq) _))
  rw [← hga]
  clear hW2 c1 c2 c3 c4 q2 hmk hga e2
  go_loopw [6] (fun v6 wr => ∃ i : Nat, v6 = .int .i64 i ∧ i ≤ 32 ∧ Aside0 (wr.heap[ga]? = some (.cells ((pkAt bs w i).map (Value.int .i64)).toArray 2 (0, 0))) ∧ Aside0 (Below W.heap.size W wr)) (fun v6 _ => 32 - (intOf v6).toNat)
  case atStart => exact ⟨0, rfl, by omega, HA2, HB2⟩
  case round =>
    clear HA2 HB2
    obtain ⟨i, rfl, hi, HA, HBW⟩ := hrel
    by_cases hi2 : i < 32
    · have q1 : decide ((i : Int) < 32) = true := decide_eq_true (by omega)
      have HAx := Aside0.mk (show wr.heap[ga]? = some (.cells ((pkRow bs w i (pkF bs (i * w) 0)).map (Value.int .i64)).toArray 2 (0, 0)) from (by have := HA.out; rwa [pkAt, if_pos hi2] at this))
      clear HA
      go_wp2
      obtain ⟨wo, hwo⟩ : ∃ wo, wo = wr := ⟨_, rfl⟩
      rw [← hwo] at HAx HBW ⊢
      clear hwo
      go_loopw [7] (fun v7 wr => ∃ k : Nat, v7 = .int .i64 k ∧ k ≤ w ∧ Aside0 (wr.heap[ga]? = some (.cells ((pkRow bs w i (pkF bs (i * w) k)).map (Value.int .i64)).toArray 2 (0, 0))) ∧ Aside0 (Below W.heap.size W wr)) (fun v7 _ => w - (intOf v7).toNat)
      case atStart => exact ⟨0, rfl, by omega, HAx, HBW⟩
      case round =>
        clear HAx HBW
        obtain ⟨k, rfl, hk, HA, HBW⟩ := hrel
        by_cases hk2 : k < w
        · have q2 : decide ((k : Int) < (w : Int)) = true := decide_eq_true (by omega)
          obtain ⟨iw, hiw⟩ : ∃ iw, iw = i * w := ⟨_, rfl⟩
          obtain ⟨J, hJ⟩ : ∃ J, J = i * w + k := ⟨_, rfl⟩
          have hiw2 : iw ≤ 31 * w := by rw [hiw]; exact Nat.mul_le_mul_right _ (by omega)
          have hJ2 : J < 8 * (4 * w) := by omega
          have hw := HW.out
          have haw := HAW.out
          obtain ⟨q, hq⟩ : ∃ q, q = J / 8 := ⟨_, rfl⟩
          obtain ⟨t, ht⟩ : ∃ t, t = J % 8 := ⟨_, rfl⟩
          obtain ⟨p, hp⟩ : ∃ p, p = a + q := ⟨_, rfl⟩
          obtain ⟨ad, had, hcell⟩ := c_at (Kd.C_below HG.out.2 (HBe.out.trans (HBW.out.mono HBe.out.size))) ((p : Nat) : Int) (by omega) (by omega)
          subst had
          obtain ⟨y, hy⟩ : ∃ y, y = rd B (p : Int) := ⟨_, rfl⟩
          rw [← hy, show ((p : Int)).toNat = p from rfl] at hcell
          have hbt := pk_bit HBU.out J
          rw [← hq, ← ht, HBR.out q (by omega), ← hp, ← hy] at hbt
          have f1 : IntKind.i64.wrap ((i : Int) * (w : Int)) = (iw : Int) := by rw [show (i : Int) * (w : Int) = (iw : Int) by rw [hiw]; omega]; exact IntWalk.i64_in _ (by omega)
          have f2 : IntKind.i64.wrap ((iw : Int) + (k : Int)) = (J : Int) := by rw [show (iw : Int) + (k : Int) = (J : Int) by omega]; exact IntWalk.i64_in _ (by omega)
          have f3 : Int.tdiv (J : Int) 8 = (q : Int) := by rw [Int.tdiv_eq_ediv_of_nonneg (by omega)]; omega
          have f4 : Int.tmod (J : Int) 8 = (t : Int) := by rw [Int.tmod_eq_emod_of_nonneg (by omega)]; omega
          have f3' : IntKind.i64.wrap (q : Int) = (q : Int) := IntWalk.i64_in _ (by omega)
          have f4' : IntKind.i64.wrap (t : Int) = (t : Int) := IntWalk.i64_in _ (by omega)
          have f5 : IntKind.i64.wrap ((a : Int) + (q : Int)) = (p : Int) := by rw [show (a : Int) + (q : Int) = (p : Int) by omega]; exact IntWalk.i64_in _ (by omega)
          have f6 : (0 : Int) ≤ (p : Int) := by omega
          have f7 : (p : Int) < (B.length : Int) := by omega
          have f8 : (0 : Int) ≤ (t : Int) := by omega
          have f9 : ((t : Int)).toNat = t := rfl
          have f10 : ((p : Int)).toNat = p := rfl
          have f17 : min t 8 = t := by omega
          have hb : wr.heap[g]? = _ := (HBW.out.block g (blk_lt HB.out)).trans HB.out
          have d0 := (blk_cell hb 0).trans (show _ = some (.slice (some ad) B.length c0) from rfl)
          have d1 := (blk_cell hb 1).trans (show _ = some (.int .i64 (a : Int)) from rfl)
          have HJ := Aside0.mk (And.intro hiw hJ)
          have Hk := Aside0.mk hk2
          have Hi := Aside0.mk hi2
          rcases hbt.2 with hz | hz
          · have q5 : (bits .and .u8 (y / 2 ^ t) 1 == 1) = false := by rw [hbt.1, hz]; decide
            have HZ := Aside0.mk hz
            have f18 : wrap64 ((k : Int) + 1) = (k : Int) + 1 := Bx.w64 (by omega) (by omega)
            clear hz hbt hy hp hq ht hJ hiw hiw2 hJ2 hw haw hb hi2 hk hi
            go_wp2
            go_quiet (fail)
            go_wp2
            go_roundw
            case rel =>
              refine ⟨k + 1, by go_num, Hk.out, ⟨?_⟩, ⟨?_⟩⟩
              · rw [pk_none (by rw [← HJ.out.2]; exact HZ.out)]; exact HA.out
              · exact pw_below_drewN HBW.out _
            case measure => first | exact meas_up Hk.out | (rw [f18]; exact meas_up Hk.out)
          · have q5 : (bits .and .u8 (y / 2 ^ t) 1 == 1) = true := by rw [hbt.1, hz]; decide
            have HZ := Aside0.mk hz
            have cA : wr.cell? ⟨ga, i, none⟩ = some (.int .i64 (pkF bs (i * w) k)) := by
              rw [blk_cell HA.out i]
              simp [pkRow_at bs w i _ hi2]
            have fA : wr.frozen? ⟨ga, i, none⟩ = false := blk_frozen HA.out i
            obtain ⟨x, hx⟩ : ∃ x, x = pkF bs (i * w) k := ⟨_, rfl⟩
            rw [← hx] at cA
            have HX := Aside0.mk hx
            have f11 : (0 : Int) ≤ (i : Int) := by omega
            have f12 : (i : Int) < 32 := by omega
            have f13 : ((i : Int)).toNat = i := rfl
            have f14 : (0 : Int) ≤ (k : Int) := by omega
            have f15 : ((k : Int)).toNat = k := rfl
            have f16 : min k 64 = k := by omega
            clear hz hbt hy hp hq ht hJ hiw hiw2 hJ2 hw haw hb hx hi2 hk hi
            go_wp2
            go_quiet (fail)
            go_wp2
            refine region_tail 10 (by kernel_rfl) (by kernel_rfl) (fun w3 hw3 => ?_)
            simp only [List.take_succ_cons, List.take_zero, List.drop_succ_cons, List.drop_zero]
            have c1 : w3.cell? ⟨ga, i, none⟩ = some (.int .i64 x) := by rw [hw3]; exact cA
            have c3 : w3.frozen? ⟨ga, i, none⟩ = false := by rw [hw3]; exact fA
            have HA3 := Aside0.mk (show w3.heap[ga]? = some (.cells ((pkRow bs w i x).map (Value.int .i64)).toArray 2 (0, 0)) from (by rw [hw3, HX.out]; exact HA.out))
            have HB3 := Aside0.mk (show Below W.heap.size W w3 from (by rw [hw3]; exact below_drew1 (pw_below_drewN HBW.out _)))
            clear hw3 HA HBW cA fA hcell d0 d1
            repeat still_step
            refine wpStill_nil ?_
            go_wp2
            go_roundw
            case rel =>
              have hval : bits .or .i64 x (wrap64 (2 ^ k)) = pkF bs (i * w) (k + 1) := by
                rw [pk_one (by rw [← HJ.out.2]; exact HZ.out), ← HX.out, Int.one_mul]
              rw [hval]
              refine ⟨k + 1, by go_num, Hk.out, ⟨?_⟩, ⟨?_⟩⟩
              · have := blk_set HA3.out i (.int .i64 (pkF bs (i * w) (k + 1)))
                rw [this]
                congr 2
                rw [← pkRow_set bs w i x (pkF bs (i * w) (k + 1))]
                simp [List.map_set]
              · exact Below.setCell HB3.out (by have := HGA.out; simp only []; omega) _
            case measure => first | exact meas_up Hk.out | (rw [f18]; exact meas_up Hk.out)
        · have q2 : decide ((k : Int) < (w : Int)) = false := decide_eq_false (by omega)
          obtain rfl : k = w := by omega
          go_wp2
          go_roundw
          case rel =>
            refine ⟨i + 1, by go_num, by omega, ⟨?_⟩, HBW⟩
            have h := HA.out
            unfold pkAt
            by_cases hl : i + 1 < 32
            · rw [if_pos hl]
              rw [pkRow_next bs k i (by omega)] at h
              exact h
            · rw [if_neg hl]
              obtain rfl : i = 31 := by omega
              rw [pkRow_last] at h
              exact h
          case measure => simp [intOf]; omega
    · obtain rfl : i = 32 := by omega
      have HA2 := Aside0.mk (show wr.heap[ga]? = some (.cells ((packedV bs w).map (Value.int .i64)).toArray 2 (0, 0)) from HA.out)
      clear HA
      have hb : wr.heap[g]? = _ := (HBW.out.block g (blk_lt HB.out)).trans HB.out
      have d1 := (blk_cell hb 1).trans (show _ = some (.int .i64 (a : Int)) from rfl)
      have d2 : wr.frozen? ⟨g, 1, none⟩ = false := blk_frozen hb 1
      have e3 : IntKind.i64.wrap ((a : Int) + 4 * (w : Int)) = ((a + 4 * w : Nat) : Int) := by
        have := HAW.out
        rw [show (a : Int) + 4 * (w : Int) = ((a + 4 * w : Nat) : Int) by omega]
        exact IntWalk.i64_in _ (by omega)
      have HBg := Aside0.mk hb
      clear hb
      go_wp2
      go_ret
      refine ⟨ga, packedV bs w, rfl, KeepBut.set_ (KeepBut.of_below HBW.out g none) _ _, by rw [HGA.out]; exact Nat.le_refl _, packedV_length _ _, packedV_in _ _, blk_far HA2.out (by have := blk_lt HB.out; have := HGA.out; simp only []; omega) _, rfl, ((a + 4 * w : Nat) : Int), 0, ⟨A0, c0, by simpa using blk_set HBg.out 1 (.int .i64 ((a + 4 * w : Nat) : Int)), HG.out.1, HG.out.2⟩, ⟨rfl, by omega, by have := HAW.out; omega, ?_⟩, ?_⟩
      · rw [show (((a + 4 * w : Nat) : Int)).toNat = a + 4 * w from rfl]; exact HREST.out
      · exact Below.setCell (HBe.out.trans (HBW.out.mono HBe.out.size)) (by simpa using HG.out.1) _
theorem rf_packed (w0 : World) (g : Nat) (B : List Int) (st : Except Int (List Int)) (w : Int) (W : World) (hl : B.length ≤ 1000000000) (hu : ∀ x ∈ B, 0 ≤ x ∧ x ≤ 255) (hw : (∃ r, st = .ok r) → 0 ≤ w ∧ w ≤ 64) (h : RfI w0 g B st W) :
    Calls Try.prog 58 #[.pointer (some ⟨g, 0, none⟩), .int .i64 w] W (RpO w0 g B W (stepR (packedS w.toNat) st)) := by
  cases st with
  | error x => exact rf_packed_wrong w0 g B x w W h
  | ok r =>
    have hww := hw ⟨r, rfl⟩
    obtain ⟨n, rfl⟩ : ∃ n : Nat, w = (n : Int) := ⟨w.toNat, by omega⟩
    show Calls _ _ _ _ (RpO w0 g B W (packedS n r))
    unfold packedS
    by_cases c : 4 * n ≤ r.length
    · rw [if_pos c]; exact rf_packed_ok w0 g B r n W hl hu (by omega) c h
    · rw [if_neg c]; exact rf_packed_short w0 g B r n W hl (by omega) (by omega) h
end Go.Proofs.Ytcdephhplmcmjaa.X
end

section
namespace Go.Proofs.Ytcdephhplmcmjaa.D13
set_option linter.unusedVariables false
set_option linter.unusedSimpArgs false
open Go.RowKit Go.Proofs.Ytcdephhplmcmjaa.X Go.Proofs.YtcdephhplmcmjaaW.PrintWords Go.Proofs.YtcdephhplmcmjaaW.PrintLast Go.Proofs.YtcdephhplmcmjaaW.PrintMore Go.Proofs.Ytcdephhplmcmjaa.Bx Go.Proofs.Ytcdephhplmcmjaa.Nx Go.Proofs.Ytcdephhplmcmjaa.Px
theorem mn_min (a b : Int) : mn a b = min a b := by unfold mn; (repeat' split) <;> omega
theorem mx_max (a b : Int) : mx a b = max a b := by unfold mx; (repeat' split) <;> omega
theorem take_fold (d : List Int) (x : Int) (i : Nat) (h : i < d.length) : min ((d.take i).foldl min x) (rd d (i : Int)) = (d.take (i + 1)).foldl min x := by
  rw [take_snoc d i h, List.foldl_append]; rfl
theorem fold_minD {d : List Int} (h : 0 < d.length) : (d.take d.length).foldl min (rd d 0) = minD d := by
  rw [List.take_of_length_le (Nat.le_refl _)]
  cases d with
  | nil => simp at h
  | cons x r =>
    show (x :: r).foldl min x = r.foldl min x
    rw [List.foldl_cons]
    congr 1
    omega
theorem blk_l0 (d : List Int) (hn : d.length ≤ 128) (h0 : 0 < d.length) : ∀ (e k i : Nat), i + e = d.length → marquetryref13_block.l0 (k + e + 1) d ((d.take i).foldl min (rd d 0)) (i : Int) = (marquetryref13_Signed.f k (minD d)).bind fun t => marquetryref13_block.l1 k d (minD d) t [] 0
  | 0, k, i, h => by
    rw [show k + 0 + 1 = k + 1 by omega, marquetryref13_block.l0, if_neg (by omega), show i = d.length by omega, fold_minD h0]
  | e + 1, k, i, h => by
    rw [show k + (e + 1) + 1 = (k + e + 1) + 1 by omega, marquetryref13_block.l0, if_pos (by omega), if_pos (by omega), mn_min, take_fold d _ i (by omega), w64 (by omega) (by omega), show (i : Int) + 1 = ((i + 1 : Nat) : Int) by omega]
    exact blk_l0 d hn h0 e k (i + 1) (by omega)
theorem cut_rd (d : List Int) (p i : Nat) (hi : i < (cutW d p).length) : rd d ((32 * p + i : Nat) : Int) = rd (cutW d p) (i : Int) := by
  have hl := cutW_len d p
  rw [rd_lt d _ (by omega), rd_lt _ i hi]
  simp only [cutW, List.getElem_take, List.getElem_drop]
theorem rd_set (l : List Int) (i : Nat) (x : Int) (h : i < l.length) : rd (l.set i x) (i : Int) = x := by
  rw [rd_lt _ i (by rw [List.length_set]; exact h)]
  simp
theorem difsW_length (least : Int) (xs : List Int) (j : Nat) (h : j ≤ xs.length) (hj : j ≤ 32) : (difsW least xs j).length = 32 := by
  unfold difsW
  rw [List.length_append, List.length_map, List.length_take, List.length_replicate]
  omega
theorem difsW_end (least : Int) (xs : List Int) : difsW least xs xs.length = rowW least xs := by
  unfold difsW rowW
  rw [List.take_of_length_le (Nat.le_refl _)]
theorem w32p {p : Nat} (h : p < 4) : wrap64 (32 * (p : Int)) = 32 * (p : Int) := w64 (by omega) (by omega)
theorem w32q {p i q : Nat} (h : p < 4) (hi : i ≤ 32) (hq : q = 32 * p + i) : wrap64 (32 * (p : Int) + (i : Int)) = (q : Int) := by rw [w64 (by omega) (by omega)]; omega
theorem blk_l2 (d : List Int) (hn : d.length ≤ 128) (M : Int) (p N : Nat) (hp : p < 4) (hN : N = min 32 (d.length - 32 * p)) (D : Nat → List Int) (T v : Nat → Int) (pk x5 x6 R : List Int) (h5 : x5.length ≤ 1000) (h6 : x6.length ≤ 100000) (need : Nat) (hneed : 2200 ≤ need)
    (hD : ∀ i, i ≤ N → (D i).length = 32) (hs : ∀ i, i < N → (D i).set i (v i) = D (i + 1)) (hr : ∀ i : Nat, i < N → rd (D (i + 1)) (i : Int) = v i) (hT : ∀ i, i < N → max (T i) (W64 (v i)) = T (i + 1)) (hv : ∀ i : Nat, i < N → marquetryref13_Sub.f (rd d ((32 * p + i : Nat) : Int)) M = some (v i) ∧ inI (v i))
    (hpk : ∀ k, 2200 ≤ k → marquetryref13_Pack.f k (T N) (D N) = some pk) (hpl : pk.length ≤ 256) (hTr : 0 ≤ T N ∧ T N ≤ 64)
    (hl1 : ∀ k, need ≤ k → marquetryref13_block.l1 k d M (x5 ++ [T N]) (x6 ++ pk) ((p + 1 : Nat) : Int) = some R) :
    ∀ (e K i : Nat), i + e = N → need + 2 * e + 2 ≤ K → marquetryref13_block.l2 K d M x5 x6 (p : Int) (D i) (T i) (i : Int) = some R
  | 0, K, i, h, hK => by
    obtain ⟨k, rfl⟩ : ∃ j, K = j + 2 := ⟨K - 2, by omega⟩
    obtain rfl : i = N := by omega
    have hk1 : need ≤ k := by omega
    have hk2 : 2200 ≤ k := by omega
    have b1 : x5.length < 140737488355328 := by omega
    have b2 : x6.length + pk.length < 140737488355328 := by omega
    have e1 : T i % 256 = T i := by omega
    have hi32 : i ≤ 32 := by omega
    have c0 : ¬ ((32 * p + i : Nat) : Int) < (d.length : Int) ∨ ¬ (i : Int) < 32 := by omega
    have hfin : marquetryref13_block.j3 (k + 1) d M x5 x6 (p : Int) (D i) (T i) (i : Int) false = some R := by
      rw [marquetryref13_block.j3, if_neg (by decide), if_pos b1, hpk k hk2, Option.bind_some, if_pos b2, e1, w64s (by omega)]
      exact hl1 k hk1
    rw [marquetryref13_block.l2]
    by_cases c : (i : Int) < 32
    · rw [if_pos c, w32p hp, w32q hp hi32 rfl, decide_eq_false (c0.resolve_right (fun h => h c))]
      exact hfin
    · rw [if_neg c]
      exact hfin
  | e + 1, K, i, h, hK => by
    obtain ⟨k, rfl⟩ : ∃ j, K = j + 2 := ⟨K - 2, by omega⟩
    have hi : i < N := by omega
    obtain ⟨q, hq⟩ : ∃ q, q = 32 * p + i := ⟨_, rfl⟩
    have hv0 := hv i hi
    rw [← hq] at hv0
    have hdl := hD i (by omega)
    have c1 : (0 : Int) ≤ (q : Int) := by omega
    have c2 : (q : Int) < (d.length : Int) := by omega
    have c3 : (0 : Int) ≤ (i : Int) := by omega
    have c4 : (i : Int) < ((D i).length : Int) := by omega
    have c5 : (i : Int) < 32 := by omega
    have hi32 : i ≤ 32 := by omega
    have hi1 : i + 1 ≤ 1000000000 := by omega
    have e1 : ((i : Int)).toNat = i := rfl
    have hw := ref_width (k := k) (by omega) hv0.2
    have r1 : (i + 1) + e = N := by omega
    have r2 : need + 2 * e + 2 ≤ k := by omega
    rw [marquetryref13_block.l2, if_pos c5, w32p hp, w32q hp hi32 hq, decide_eq_true c2, marquetryref13_block.j3, if_pos rfl, w32p hp, w32q hp hi32 hq, if_pos c1, if_pos c2, hv0.1, Option.bind_some, if_pos c3, if_pos c4, Option.bind_some, e1, hs i hi, hr i hi, hw, Option.bind_some, mx_max, hT i hi, w64s hi1]
    exact blk_l2 d hn M p N hp hN D T v pk x5 x6 R h5 h6 need hneed hD hs hr hT hv hpk hpl hTr hl1 e k (i + 1) r1 r2
set_option maxRecDepth 20000 in
theorem blk_l1 (d : List Int) (hd : ∀ x ∈ d, inI x) (hn : d.length ≤ 128) (M : Int) (hM : inI M) : ∀ (m p K : Nat) (x5 x6 : List Int), p + m = 4 → x5.length + m ≤ 1000 → x6.length + 256 * m ≤ 100000 → 2201 + 67 * m ≤ K →
    marquetryref13_block.l1 K d M x5 x6 (p : Int) = some ((x5 ++ wsR M d m p) ++ (x6 ++ psR M d m p))
  | 0, p, K, x5, x6, hp, h5, h6, hK => by
    obtain ⟨k, rfl⟩ : ∃ j, K = j + 1 := ⟨K - 1, by omega⟩
    rw [marquetryref13_block.l1, if_neg (by omega), if_pos (by omega)]
    simp [wsR, psR]
  | m + 1, p, K, x5, x6, hp, h5, h6, hK => by
    obtain ⟨k, rfl⟩ : ∃ j, K = j + 1 := ⟨K - 1, by omega⟩
    have hpl := pakB_length M d p
    have hr := topW_range M (cutW d p)
    have hcl := cutW_length d p
    have hcl2 := cutW_len d p
    have hrl := rowW_length M (cutW d p) hcl
    obtain ⟨need, hneed⟩ : ∃ need, need = 2201 + 67 * m := ⟨_, rfl⟩
    have hn0 : 2200 ≤ need := by omega
    have h2 := blk_l2 d hn M p (cutW d p).length (by omega) hcl2 (fun i => difsW M (cutW d p) i) (fun i => topW M ((cutW d p).take i)) (fun i => difW M (rd (cutW d p) (i : Int))) (pakB M d p) x5 x6 ((x5 ++ wsR M d (m + 1) p) ++ (x6 ++ psR M d (m + 1) p)) (by omega) (by omega) need hn0
      (fun i hi => difsW_length M _ i hi (by omega)) (fun i hi => difsW_len M _ i hi (by omega)) (fun i hi => by
        have h3 := difsW_length M (cutW d p) i (by omega) (by omega)
        have h4 := rd_set (difsW M (cutW d p) i) i (difW M (rd (cutW d p) (i : Int))) (by omega)
        rwa [difsW_len M (cutW d p) i hi (by omega)] at h4)
      (fun i hi => (topW_snoc M (cutW d p) i hi).symm) (fun i hi => ⟨by
        have hm : inI (rd d ((32 * p + i : Nat) : Int)) := by rw [rd_lt d _ (by omega)]; exact hd _ (List.getElem_mem _)
        rw [ref_sub hm hM, cut_rd d p i hi]; rfl, wrap_in _⟩)
      (fun k hk => by
        have hpk := ref_pack (k := k) (W := (topW M (cutW d p)).toNat) (ys := rowW M (cutW d p)) (by omega) (by omega) (by
          rw [hrl]
          have : 32 * ((topW M (cutW d p)).toNat + 2) ≤ 32 * 66 := Nat.mul_le_mul_left _ (by omega)
          omega)
        rw [show (((topW M (cutW d p)).toNat : Nat) : Int) = topW M (cutW d p) by omega] at hpk
        have e1 : (cutW d p).take (cutW d p).length = cutW d p := List.take_of_length_le (Nat.le_refl _)
        show marquetryref13_Pack.f k (topW M ((cutW d p).take (cutW d p).length)) (difsW M (cutW d p) (cutW d p).length) = _
        rw [e1, difsW_end]
        exact hpk)
      (by rw [hpl]; omega) (by
        have e1 : (cutW d p).take (cutW d p).length = cutW d p := List.take_of_length_le (Nat.le_refl _)
        show 0 ≤ topW M ((cutW d p).take (cutW d p).length) ∧ _
        rw [e1]; exact hr)
      (fun k' hk' => by
        have e1 : (cutW d p).take (cutW d p).length = cutW d p := List.take_of_length_le (Nat.le_refl _)
        show marquetryref13_block.l1 k' d M (x5 ++ [topW M ((cutW d p).take (cutW d p).length)]) (x6 ++ pakB M d p) ((p + 1 : Nat) : Int) = _
        rw [e1, blk_l1 d hd hn M hM m (p + 1) k' _ _ (by omega) (by rw [List.length_append, List.length_singleton]; omega) (by rw [List.length_append]; omega) (by omega)]
        simp [wsR, psR]) (cutW d p).length k 0 (by omega) (by omega)
    have e1 : difsW M (cutW d p) 0 = List.replicate 32 0 := by simp [difsW]
    have e2 : topW M ((cutW d p).take 0) = 0 := by simp [topW]
    rw [e1, e2, show ((0 : Nat) : Int) = 0 from rfl] at h2
    rw [marquetryref13_block.l1, if_pos (by omega), if_pos (by decide)]
    exact h2
theorem cut_nil (d : List Int) (i : Nat) (h : npW d ≤ i) : cutW d i = [] := by
  have := cutW_len d i
  unfold npW at h
  exact List.length_eq_zero_iff.1 (by omega)
theorem wsR_more (M : Int) (d : List Int) : ∀ (m z i : Nat), npW d ≤ i + m → wsR M d (m + z) i = wsR M d m i ++ List.replicate z 0
  | 0, 0, i, h => rfl
  | 0, z + 1, i, h => by
    have ih := wsR_more M d 0 z (i + 1) (by omega)
    rw [show 0 + (z + 1) = (0 + z) + 1 by omega]
    show topW M (cutW d i) :: wsR M d (0 + z) (i + 1) = [] ++ List.replicate (z + 1) 0
    rw [ih, cut_nil d i (by omega), List.replicate_succ]
    rfl
  | m + 1, z, i, h => by
    have ih := wsR_more M d m z (i + 1) (by omega)
    rw [show m + 1 + z = (m + z) + 1 by omega, wsR, wsR, ih]
    rfl
theorem psR_more (M : Int) (d : List Int) : ∀ (m z i : Nat), npW d ≤ i + m → psR M d (m + z) i = psR M d m i
  | 0, 0, i, h => rfl
  | 0, z + 1, i, h => by
    have ih := psR_more M d 0 z (i + 1) (by omega)
    have e : pakB M d i = [] := List.length_eq_zero_iff.1 (by rw [pakB_length, cut_nil d i (by omega)]; rfl)
    rw [show 0 + (z + 1) = (0 + z) + 1 by omega]
    show pakB M d i ++ psR M d (0 + z) (i + 1) = []
    rw [ih, e]
    rfl
  | m + 1, z, i, h => by
    have ih := psR_more M d m z (i + 1) (by omega)
    rw [show m + 1 + z = (m + z) + 1 by omega, psR, psR, ih]
theorem ref_block {k : Nat} (hk : 4000 ≤ k) {d : List Int} (hd : ∀ x ∈ d, inI x) (h0 : 0 < d.length) (hn : d.length ≤ 128) : marquetryref13_block.f k d = some (blkB d) := by
  obtain ⟨k', rfl⟩ : ∃ j, k = j + d.length + 1 := ⟨k - d.length - 1, by omega⟩
  have hM := minD_in hd
  have hz := zz_range hM.1 hM.2
  have hv := vb_length64 (n := (zz (minD d)).toNat) (by omega)
  have h1 := blk_l0 d hn h0 d.length k' 0 (by omega)
  rw [show ((0 : Nat) : Int) = 0 from rfl] at h1
  have e0 : (d.take 0).foldl min (rd d 0) = rd d 0 := by simp
  rw [e0] at h1
  unfold marquetryref13_block.f
  rw [if_pos (by omega), h1, ref_signed (by omega) hM.1 hM.2, Option.bind_some]
  have h2 := blk_l1 d hd hn (minD d) hM 4 0 k' (vb (zz (minD d)).toNat) [] (by omega) (by omega) (by simp) (by omega)
  rw [show ((0 : Nat) : Int) = 0 from rfl] at h2
  rw [h2]
  have h4 : npW d ≤ 4 := by unfold npW; omega
  have e1 := wsR_more (minD d) d (npW d) (4 - npW d) 0 (by omega)
  have e2 := psR_more (minD d) d (npW d) (4 - npW d) 0 (by omega)
  rw [show npW d + (4 - npW d) = 4 by omega] at e1 e2
  rw [e1, e2]
  simp [blkB]
theorem difD_cut (L : List Int) (N a e : Nat) (h : a ≤ e) (he : e ≤ N) : ((difD L 1 N).take e).drop a = difD L ((1 + a : Nat) : Int) (e - a) := by
  apply List.ext_getElem
  · rw [List.length_drop, List.length_take, difD_length, difD_length]; omega
  · intro i h1 h2
    rw [List.getElem_drop, List.getElem_take]
    simp only [difD, List.getElem_map, List.getElem_range]
    congr 1
    have e1 : (1 : Int) + ((a + i : Nat) : Int) = ((1 + a : Nat) : Int) + (i : Int) := by omega
    rw [e1]
set_option maxRecDepth 20000 in
theorem wr_l1 (L : List Int) (hL : L.length ≤ 65536) (h0 : 0 < L.length) : ∀ (dd K a : Nat) (out : List Int), (L.length : Int) - (1 + a) < 128 * dd → 4001 + dd ≤ K → out.length + 1040 * dd ≤ 99999990 → a ≤ 70000 →
    marquetryref13_Write.l1 K out (difD L 1 (L.length - 1)) (a : Int) = some (out ++ (blksD L dd ((1 + a : Nat) : Int)).flatMap blkB, 0)
  | 0, K, a, out, h, hK, ho, ha => by
    obtain ⟨k, rfl⟩ : ∃ j, K = j + 1 := ⟨K - 1, by omega⟩
    rw [marquetryref13_Write.l1, if_neg (by rw [difD_length]; omega)]
    simp [blksD]
  | dd + 1, K, a, out, h, hK, ho, ha => by
    obtain ⟨k, rfl⟩ : ∃ j, K = j + 1 := ⟨K - 1, by omega⟩
    have hdl := difD_length L 1 (L.length - 1)
    rw [marquetryref13_Write.l1, hdl]
    by_cases c : (a : Int) < ((L.length - 1 : Nat) : Int)
    · obtain ⟨e, he⟩ : ∃ e : Nat, min ((L.length - 1 : Nat) : Int) ((a : Int) + 128) = (e : Int) := ⟨(min ((L.length - 1 : Nat) : Int) ((a : Int) + 128)).toNat, by omega⟩
      have hm : (min (L.length : Int) (((1 + a : Nat) : Int) + 128) - ((1 + a : Nat) : Int)).toNat = e - a := by omega
      have hdi := difD_in L ((1 + a : Nat) : Int) (e - a)
      have hdn := difD_length L ((1 + a : Nat) : Int) (e - a)
      have hd0 : 0 < (difD L ((1 + a : Nat) : Int) (e - a)).length := by omega
      have hd1 : (difD L ((1 + a : Nat) : Int) (e - a)).length ≤ 128 := by omega
      have hbl := blkB_length hdi hd1
      have hk4 : 4000 ≤ k := by omega
      have hob : out.length + (blkB (difD L ((1 + a : Nat) : Int) (e - a))).length < 140737488355328 := by omega
      rw [if_pos c, if_pos (by omega), w64 (by omega) (by omega), mn_min, he, if_pos (by omega), if_pos (by omega), show ((e : Int)).toNat = e from rfl, show ((a : Int)).toNat = a from rfl, difD_cut L _ a e (by omega) (by omega), ref_block (k := k) hk4 hdi hd0 hd1, Option.bind_some, if_pos hob]
      have ih := wr_l1 L hL h0 dd k (a + 128) (out ++ blkB (difD L ((1 + a : Nat) : Int) (e - a))) (by omega) (by omega) (by rw [List.length_append]; omega) (by omega)
      rw [show (a : Int) + 128 = ((a + 128 : Nat) : Int) by omega, ih, blksD, if_pos (by omega), hm, List.flatMap_cons, show ((1 + a : Nat) : Int) + 128 = ((1 + (a + 128) : Nat) : Int) by omega, List.append_assoc]
    · rw [if_neg c, blksD, if_neg (by omega)]
      simp
theorem wsub1 {i : Nat} (h : 1 ≤ i) (h2 : i ≤ 1000000000) : wrap64 ((i : Int) - 1) = ((i - 1 : Nat) : Int) := by rw [w64 (by omega) (by omega)]; omega
theorem wr_l0 (L : List Int) (hx : ∀ x ∈ L, inI x) (hL : L.length ≤ 65536) (h0 : 0 < L.length) (out : List Int) (ho : out.length ≤ 100) : ∀ (e K i : Nat), i + e = L.length → 1 ≤ i → 4700 + e ≤ K →
    marquetryref13_Write.l0 K L out (difD L 1 (i - 1)) (i : Int) = some (out ++ (allD L).flatMap blkB, 0)
  | 0, K, i, h, hi, hK => by
    obtain ⟨k, rfl⟩ : ∃ j, K = j + 1 := ⟨K - 1, by omega⟩
    rw [marquetryref13_Write.l0, if_neg (by omega), show i - 1 = L.length - 1 by omega]
    have := wr_l1 L hL h0 600 k 0 out (by omega) (by omega) (by omega) (by omega)
    exact this
  | e + 1, K, i, h, hi, hK => by
    obtain ⟨k, rfl⟩ : ∃ j, K = j + 1 := ⟨K - 1, by omega⟩
    have m1 : inI (rd L (i : Int)) := by rw [rd_lt L i (by omega)]; exact hx _ (List.getElem_mem _)
    have m2 : inI (rd L ((i - 1 : Nat) : Int)) := by rw [rd_lt L (i - 1) (by omega)]; exact hx _ (List.getElem_mem _)
    have hds := difD_succ L 1 (i - 1)
    rw [show i - 1 + 1 = i by omega, show (1 : Int) + ((i - 1 : Nat) : Int) = (i : Int) by omega, show (i : Int) - 1 = ((i - 1 : Nat) : Int) by omega] at hds
    have ih := wr_l0 L hx hL h0 out ho e k (i + 1) (by omega) (by omega) (by omega)
    rw [show i + 1 - 1 = i by omega, hds] at ih
    rw [marquetryref13_Write.l0, if_pos (by omega), if_pos (by omega), wsub1 hi (by omega), if_pos (by omega), if_pos (by omega), ref_sub m1 m2, Option.bind_some, if_pos (by rw [difD_length]; omega), w64s (n := i) (by omega)]
    exact ih
theorem ref_write {k : Nat} {L : List Int} (hk : L.length + 4800 ≤ k) (hx : ∀ x ∈ L, inI x) (hL : L.length ≤ 65536) : marquetryref13_Write.f k L = some (listB L, 0) := by
  have e128 : vb 128 = [128, 1] := by rw [vb_big (by omega), vb_small (by omega)]; rfl
  have e4 : vb 4 = [4] := by rw [vb_small (by omega)]; rfl
  have h0 := rd0_in hx
  have hz := zz_range h0.1 h0.2
  have hv := vb_length64 (n := (zz (rd L 0)).toNat) (by omega)
  have hv2 := vb_length64 (n := L.length) (by omega)
  have n1 := ref_number (k := k) (x := 128) (by omega) (by omega) (by omega)
  have n2 := ref_number (k := k) (x := 4) (by omega) (by omega) (by omega)
  have n3 := ref_number (k := k) (x := (L.length : Int)) (by omega) (by omega) (by omega)
  rw [show ((128 : Int)).toNat = 128 from rfl, e128] at n1
  rw [show ((4 : Int)).toNat = 4 from rfl, e4] at n2
  rw [show ((L.length : Int)).toNat = L.length from rfl] at n3
  unfold marquetryref13_Write.f
  rw [if_neg (by omega), n1, Option.bind_some, n2, Option.bind_some, if_pos (by decide), Option.bind_some, u64w, show (L.length : Int) % 18446744073709551616 = (L.length : Int) by omega, n3, Option.bind_some, if_pos (by simp; omega), Option.bind_some]
  unfold listB
  by_cases c : L.length = 0
  · rw [if_pos (by omega), if_pos (by simp; omega), if_pos c]
    simp
  · rw [if_neg (by omega), if_pos (by omega), if_neg c, ref_signed (by omega) h0.1 h0.2, Option.bind_some, if_pos (by simp; omega)]
    have := wr_l0 L hx hL (by omega) (([128, 1] ++ [4] ++ vb L.length) ++ vb (zz (rd L 0)).toNat) (by simp; omega) (L.length - 1) k 1 (by omega) (by omega) (by omega)
    rw [show difD L 1 (1 - 1) = [] from rfl, show (((1 : Nat)) : Int) = 1 from rfl] at this
    rw [this]
    simp
end Go.Proofs.Ytcdephhplmcmjaa.D13
end

section
namespace Go.Proofs.Ytcdephhplmcmjaa.X
open Go.RowKit Go.Proofs.YtcdephhplmcmjaaW.PrintWords Go.Proofs.YtcdephhplmcmjaaW.PrintLast Go.Proofs.YtcdephhplmcmjaaW.PrintMore Go.Proofs.Ytcdephhplmcmjaa.D13
set_option linter.unusedVariables false
set_option linter.unusedSimpArgs false
def Rs (res : Except Int (List Int × List Int)) (F : List Int → Prop) : Except Int (List Int) → Prop
  | .ok r => F r
  | .error x => res = .error x ∧ x ≠ 0
def Nx {α : Type} (P : List Int → Except Int (α × List Int)) (st : Except Int (List Int)) (v : α) (st1 : Except Int (List Int)) : Prop :=
  match stepR P st with
  | .ok (y, r) => v = y ∧ st1 = .ok r
  | .error x => st1 = .error x ∧ x ≠ 0
theorem Rs.imp {res : Except Int (List Int × List Int)} {F G : List Int → Prop} {st : Except Int (List Int)} (h : Rs res F st) (hi : ∀ r, F r → G r) : Rs res G st := by
  cases st with
  | ok r => exact hi r h
  | error x => exact h
theorem Rs.step {α : Type} {P : List Int → Except Int (α × List Int)} {res : Except Int (List Int × List Int)} {F : List Int → Prop} {G : α → List Int → Prop} {st st1 : Except Int (List Int)} {v : α} (h : Rs res F st) (hn : Nx P st v st1)
    (hG : ∀ r r1, F r → P r = .ok (v, r1) → G v r1) (hE : ∀ r x, F r → P r = .error x → res = .error x) : Rs res (G v) st1 := by
  unfold Nx at hn
  cases st with
  | error x =>
    obtain ⟨rfl, hx⟩ : st1 = .error x ∧ x ≠ 0 := hn
    exact h
  | ok r =>
    change (match P r with | .ok (y, r) => v = y ∧ st1 = .ok r | .error x => st1 = .error x ∧ x ≠ 0) at hn
    cases hp : P r with
    | error x =>
      rw [hp] at hn
      obtain ⟨rfl, hx⟩ := hn
      exact ⟨hE r x h hp, hx⟩
    | ok q =>
      obtain ⟨y, r1⟩ := q
      rw [hp] at hn
      obtain ⟨rfl, rfl⟩ := hn
      exact hG r r1 h hp
theorem Rs.next {α : Type} {P : List Int → Except Int (α × List Int)} {res : Except Int (List Int × List Int)} {k : α → List Int → Except Int (List Int × List Int)} {st st1 : Except Int (List Int)} {v : α} (h : Rs res (fun r => res = andS (P r) k) st) (hn : Nx P st v st1) : Rs res (fun r => res = k v r) st1 :=
  Rs.step (G := fun v r => res = k v r) h hn (fun r r1 h hp => by rw [h, hp]; rfl) (fun r x h hp => by rw [h, hp]; rfl)
theorem Rs.must {res : Except Int (List Int × List Int)} {c : Prop} [Decidable c] {X : List Int → Except Int (List Int × List Int)} {st : Except Int (List Int)} {b : Bool} (h : Rs res (fun r => res = if c then X r else .error 8) st) (hb : b = decide c) : Rs res (fun r => c ∧ res = X r) (mustR b st) := by
  cases st with
  | error x => exact h
  | ok r =>
    have h : res = if c then X r else .error 8 := h
    subst hb
    by_cases hc : c
    · rw [if_pos hc] at h
      rw [decide_eq_true hc]
      exact ⟨hc, h⟩
    · rw [if_neg hc] at h
      rw [decide_eq_false hc]
      exact ⟨h, by decide⟩
theorem rs_after {A : Type} {res : Except Int (List Int × List Int)} {F : List Int → Prop} {st : Except Int (List Int)} {p : Prop} (h : Rs res (fun r => p ∧ F r) st) : Rs res F st := h.imp fun _ h => h.2
theorem byte_eq (v c : Int) : (v == c) = decide (v = c) := by
  by_cases h : v = c
  · rw [decide_eq_true h]; exact beq_iff_eq.2 h
  · rw [decide_eq_false h]; exact beq_eq_false_iff_ne.2 h
def RxO {α : Type} (w0 : World) (g : Nat) (B : List Int) (W : World) (val : α → Value) (P : List Int → Except Int (α × List Int)) (p : α → Prop) (st : Except Int (List Int)) (e : Ending) (W' : World) : Prop :=
  ∃ v st1, e = .returned (val v) ∧ Nx P st v st1 ∧ p v ∧ RfI w0 g B st1 W' ∧ KeepBut W W' g none
theorem rfI_wrong {w0 : World} {g : Nat} {B : List Int} {x : Int} {W : World} (h : RfI w0 g B (.error x) W) : x ≠ 0 := by
  obtain ⟨_, _, _, ⟨_, h⟩, _⟩ := h
  exact h
theorem rx_of {w0 W W' : World} {g : Nat} {B : List Int} {val : Int → Value} {P : List Int → Except Int (Int × List Int)} {st : Except Int (List Int)} {e : Ending} {p : Int → Prop} (h : RfO w0 g B W val id (stepR P st) e W') (hp : ∀ v, e = .returned (val v) → p v) : RxO w0 g B W val P p st e W' := by
  obtain ⟨v, rfl, hK, hm⟩ := h
  unfold RxO Nx
  cases hr : stepR P st with
  | error x =>
    rw [hr] at hm
    exact ⟨v, .error x, rfl, ⟨rfl, rfI_wrong hm⟩, hp v rfl, hm, hK⟩
  | ok q =>
    obtain ⟨y, r⟩ := q
    rw [hr] at hm
    obtain ⟨hv, hI⟩ := hm
    have hv : v = y := hv
    subst hv
    exact ⟨v, .ok r, rfl, ⟨rfl, rfl⟩, hp _ rfl, hI, hK⟩
theorem rx_number (w0 : World) (g : Nat) (B : List Int) (st : Except Int (List Int)) (W : World) (hl : B.length ≤ 1000000000) (hu : ∀ x ∈ B, 0 ≤ x ∧ x ≤ 255) (h : RfI w0 g B st W) :
    Calls Try.prog 54 #[.pointer (some ⟨g, 0, none⟩)] W (RxO w0 g B W (Value.int .u64) (numS 0 0) (fun _ => True) st) :=
  (rf_number w0 g B st W hl hu h).mono fun _ _ h => rx_of h (fun _ _ => trivial)
theorem rd_range {B : List Int} (hu : ∀ x ∈ B, 0 ≤ x ∧ x ≤ 255) (i : Int) : 0 ≤ rd B i ∧ rd B i ≤ 255 := getD_u8 hu _
theorem rx_next (w0 : World) (g : Nat) (B : List Int) (st : Except Int (List Int)) (W : World) (hl : B.length ≤ 1000000000) (hu : ∀ x ∈ B, 0 ≤ x ∧ x ≤ 255) (h : RfI w0 g B st W) :
    Calls Try.prog 57 #[.pointer (some ⟨g, 0, none⟩)] W (RxO w0 g B W (Value.int .u8) byteS (fun v => 0 ≤ v ∧ v ≤ 255) st) := by
  obtain ⟨at_, wrong, hI, hst, hB⟩ := id h
  have key : ∃ v at2 wrong2, marquetryref13_Reader_next.f 40 B at_ wrong = some (v, at2, wrong2) ∧ (0 ≤ v ∧ v ≤ 255) ∧ (match stepR byteS st with | .ok (y, r) => v = y ∧ StR B at2 wrong2 (.ok r) | .error x => StR B at2 wrong2 (.error x)) := by
    cases st with
    | error x =>
      obtain ⟨rfl, hx⟩ := hst
      exact ⟨0, at_, wrong, next_wrong (by decide) hx, by omega, rfl, hx⟩
    | ok r =>
      obtain ⟨rfl, a, rfl, ha, rfl⟩ := stR_ok hst
      by_cases c : a < B.length
      · refine ⟨_, _, _, next_one (k := 40) (by decide) c (by omega), rd_range hu _, ?_⟩
        unfold stepR
        simp only []
        rw [drop_rd c]
        exact ⟨rfl, rfl, by omega, by omega, rfl⟩
      · refine ⟨_, _, _, next_nil (k := 40) (by decide) (by omega), by omega, ?_⟩
        unfold stepR
        simp only []
        rw [List.drop_of_length_le (by omega)]
        exact ⟨rfl, by decide⟩
  obtain ⟨v, at2, wrong2, hv, hin, hm⟩ := key
  refine (marquetryref13_Reader_next.calls 40 g B at_ wrong v at2 wrong2 w0 W hI hB hv).mono ?_
  rintro e W' ⟨rfl, hI', hB', hK⟩
  unfold RxO Nx
  cases hr : stepR byteS st with
  | error x =>
    rw [hr] at hm
    exact ⟨v, .error x, rfl, ⟨rfl, hm.2⟩, hin, ⟨at2, wrong2, hI', hm, hB'⟩, hK⟩
  | ok q =>
    obtain ⟨y, r⟩ := q
    rw [hr] at hm
    obtain ⟨rfl, hm⟩ := hm
    exact ⟨v, .ok r, rfl, ⟨rfl, rfl⟩, hin, ⟨at2, wrong2, hI', hm, hB'⟩, hK⟩
theorem signed_in {k : Nat} {B : List Int} {at_ wrong v at2 wrong2 : Int} (h : marquetryref13_Reader_signed.f k B at_ wrong = some (v, at2, wrong2)) : D13.inI v := by
  unfold marquetryref13_Reader_signed.f at h
  obtain ⟨t, _, h⟩ := Option.bind_eq_some_iff.1 h
  split at h
  · obtain ⟨rfl, _⟩ := Prod.mk.inj (Option.some.inj h); exact wrap_in _
  · obtain ⟨rfl, _⟩ := Prod.mk.inj (Option.some.inj h); exact wrap_in _
theorem rx_signed (w0 : World) (g : Nat) (B : List Int) (st : Except Int (List Int)) (W : World) (hl : B.length ≤ 1000000000) (hu : ∀ x ∈ B, 0 ≤ x ∧ x ≤ 255) (h : RfI w0 g B st W) :
    Calls Try.prog 56 #[.pointer (some ⟨g, 0, none⟩)] W (RxO w0 g B W (Value.int .i64) (fun b => mapS sgnV (numS 0 0 b)) D13.inI st) := by
  have hs := rf_signed w0 g B st W hl hu h
  obtain ⟨at_, wrong, hI, hst, hB⟩ := id h
  have key : ∃ v at2 wrong2, marquetryref13_Reader_signed.f 40 B at_ wrong = some (v, at2, wrong2) ∧ (match stepR (fun b => mapS sgnV (numS 0 0 b)) st with | .ok (y, r) => v = y ∧ StR B at2 wrong2 (.ok r) | .error x => StR B at2 wrong2 (.error x)) := by
    cases st with
    | error x =>
      obtain ⟨rfl, hx⟩ := hst
      obtain ⟨v, hv⟩ := signed_wrong (k := 40) (B := B) (at_ := at_) (by decide) hx
      exact ⟨_, _, _, hv, rfl, hx⟩
    | ok r =>
      obtain ⟨rfl, a, rfl, ha, rfl⟩ := stR_ok hst
      obtain ⟨v, at2, wrong2, h1, h2⟩ := signed_ref (k := 40) (by decide) ha hl hu
      refine ⟨v, at2, wrong2, h1, ?_⟩
      unfold OutR at h2
      unfold stepR
      simp only []
      cases hr : mapS sgnV (numS 0 0 (B.drop a)) with
      | error x => rw [hr] at h2; exact h2
      | ok q => rw [hr] at h2; exact h2
  obtain ⟨v, at2, wrong2, hv, hm⟩ := key
  refine (marquetryref13_Reader_signed.calls 40 g B at_ wrong v at2 wrong2 w0 W hI hB hv).mono ?_
  rintro e W' ⟨rfl, hI', hB', hK⟩
  have hin := signed_in hv
  unfold RxO Nx
  cases hr : stepR (fun b => mapS sgnV (numS 0 0 b)) st with
  | error x =>
    rw [hr] at hm
    exact ⟨v, .error x, rfl, ⟨rfl, hm.2⟩, hin, ⟨at2, wrong2, hI', hm, hB'⟩, hK⟩
  | ok q =>
    obtain ⟨y, r⟩ := q
    rw [hr] at hm
    obtain ⟨rfl, hm⟩ := hm
    exact ⟨v, .ok r, rfl, ⟨rfl, rfl⟩, hin, ⟨at2, wrong2, hI', hm, hB'⟩, hK⟩
def RyO (w0 : World) (g : Nat) (B : List Int) (W : World) (w : Nat) (st : Except Int (List Int)) (e : Ending) (W' : World) : Prop :=
  ∃ (ga : Nat) (xs : List Int) (st1 : Except Int (List Int)), e = .returned (.slice (some ⟨ga, 0, none⟩) 32 32) ∧ KeepBut W W' g none ∧ W.heap.size ≤ ga ∧ xs.length = 32 ∧ (∀ x ∈ xs, D13.inI x) ∧ W'.heap[ga]? = some (.cells (xs.map (Value.int .i64)).toArray 2 (0, 0)) ∧ Nx (packedS w) st xs st1 ∧ RfI w0 g B st1 W'
theorem rx_packed (w0 : World) (g : Nat) (B : List Int) (st : Except Int (List Int)) (w : Int) (W : World) (hl : B.length ≤ 1000000000) (hu : ∀ x ∈ B, 0 ≤ x ∧ x ≤ 255) (hw : (∃ r, st = .ok r) → 0 ≤ w ∧ w ≤ 64) (h : RfI w0 g B st W) :
    Calls Try.prog 58 #[.pointer (some ⟨g, 0, none⟩), .int .i64 w] W (RyO w0 g B W w.toNat st) := by
  refine (rf_packed w0 g B st w W hl hu hw h).mono ?_
  rintro e W' ⟨ga, xs, rfl, h1, h2, h3, h4, h5, hm⟩
  unfold RyO Nx
  cases hr : stepR (packedS w.toNat) st with
  | error x =>
    rw [hr] at hm
    exact ⟨ga, xs, .error x, rfl, h1, h2, h3, h4, h5, ⟨rfl, rfI_wrong hm⟩, hm⟩
  | ok q =>
    obtain ⟨y, r⟩ := q
    rw [hr] at hm
    obtain ⟨rfl, hm⟩ := hm
    exact ⟨ga, xs, .ok r, rfl, h1, h2, h3, h4, h5, ⟨rfl, rfl⟩, hm⟩
theorem rf_own {w0 W W' : World} {g base n : Nat} {B : List Int} {st : Except Int (List Int)} {v : Value} {xs : List Value} (hK : KeepBut W W' g none) (hI : RfI w0 g B st W) (ho : W.ownsRow base 2 1 v n xs) : W'.ownsRow base 2 1 v n xs := by
  obtain ⟨_, _, ⟨_, _, hb, _⟩, _⟩ := hI
  refine hK.own ho (fun h => own_ne ho hb (by decide) h.symm) ?_
  cases v.ownBlock with
  | none => exact .inl rfl
  | some b => exact .inr (by simp)
theorem rf_ne {w0 W : World} {g base n : Nat} {B : List Int} {st : Except Int (List Int)} {v : Value} {xs : List Value} (hI : RfI w0 g B st W) (ho : W.ownsRow base 2 1 v n xs) : some g ≠ v.ownBlock := by
  obtain ⟨_, _, ⟨_, _, hb, _⟩, _⟩ := hI
  exact own_ne ho hb (by decide)
theorem rf_blk {w0 W W' : World} {g ga : Nat} {B : List Int} {st : Except Int (List Int)} {cs : Array Value} {t : TypeId} (hK : KeepBut W W' g none) (hI : RfI w0 g B st W) (hb : W.heap[ga]? = some (.cells cs t (0, 0))) (ht : t ≠ 87) : W'.heap[ga]? = some (.cells cs t (0, 0)) := by
  obtain ⟨_, _, hs, _⟩ := hI
  exact hK.blk hb (fun e => hs.ne_blk hb ht e.symm) (by simp)
theorem take_set {ws : List Int} {i : Nat} {v : Int} (h : i < ws.length) : (ws.set i v).take (i + 1) = ws.take i ++ [v] := by
  rw [List.take_succ_eq_append_getElem (by rw [List.length_set]; exact h), List.getElem_set_self, List.take_set_of_le (Nat.le_refl _)]
end Go.Proofs.Ytcdephhplmcmjaa.X
end

section
namespace Go.Proofs.Ytcdephhplmcmjaa.X
open Go.RowKit Go.Proofs.YtcdephhplmcmjaaW.PrintWords Go.Proofs.YtcdephhplmcmjaaW.PrintLast Go.Proofs.YtcdephhplmcmjaaW.PrintMore Go.Proofs.Ytcdephhplmcmjaa.D13
set_option linter.unusedVariables false
set_option linter.unusedSimpArgs false
def RbO (W : World) (a : List Int × Int × Int) (e : Ending) (W' : World) : Prop :=
  ∃ v, e = .returned (.tuple #[v, .int .i64 a.2.1, .int .i64 a.2.2]) ∧ W'.ownsRow W.heap.size 2 1 v a.1.length (nums .i64 a.1) ∧ Below W.heap.size W W'
theorem rf_new (W : World) (A0 : Option Addr) (c0 : Nat) (B : List Int) (hC : Kd.C (Kd.int .u8) W A0 B.length B) : RfI W W.heap.size B (.ok B) (W.alloc (.cells #[.slice A0 B.length c0, .int .i64 0, .int .i64 0] 87)) :=
  ⟨0, 0, IsS87.new W W A0 c0 B 0 0 (Below.refl _ _) hC, ⟨rfl, by omega, by omega, rfl⟩, below_alloc (Below.refl _ _) _⟩
theorem rfI_below {w0 A : World} {g : Nat} {B : List Int} {st : Except Int (List Int)} (h : RfI w0 g B st A) : Below w0.heap.size w0 A := by
  obtain ⟨_, _, _, _, h⟩ := h
  exact h
theorem rfI_grown {w0 A A' : World} {g : Nat} {B : List Int} {st : Except Int (List Int)} {row : Option Nat} (h : RfI w0 g B st A) (hg : A.grownBy A' row) (hne : some g ≠ row) (hb : Below w0.heap.size w0 A') : RfI w0 g B st A' := by
  obtain ⟨a, w, h1, h2, _⟩ := h
  exact ⟨a, w, h1.grown hg hne, h2, hb⟩
theorem rfI_keep {w0 A A' : World} {g : Nat} {B : List Int} {st : Except Int (List Int)} (h : RfI w0 g B st A) (hb : Below A.heap.size A A') : RfI w0 g B st A' := by
  obtain ⟨a, w, h1, h2, h3⟩ := h
  exact ⟨a, w, h1.below hb, h2, h3.trans (hb.mono h3.size)⟩
theorem own_old {W : World} {base gx n : Nat} {e : TypeId} {v : Value} {xs : List Value} (h : W.ownsRow base e 1 v n xs) (hg : W.heap.size ≤ gx) : v.ownBlock ≠ some gx := by
  obtain ⟨_, ⟨rfl, _⟩ | ⟨b, cap, cur, rfl, hb, hc, _⟩⟩ := h
  · simp [Value.ownBlock]
  · have := blk_lt hc
    simp only [Value.ownBlock, ne_eq, Option.some.injEq]
    omega
theorem begin_ok {B l : List Int} {res : Except Int (List Int × List Int)} {a : Nat} (h : res = listS B) (hr : res = .ok (l, B.drop a)) (ha : a ≤ B.length) : beginR B = if (strOfNums (listB l)).toList = (strOfNums (B.take a)).toList then (l, (a : Int), 0) else ([], 0, 8) := by
  unfold beginR
  rw [← h, hr]
  simp only [List.length_drop]
  rw [show B.length - (B.length - a) = a by omega]
theorem below_cell {n : Nat} {w w' : World} {p : Addr} {v : Value} (h : Below n w w') (hp : w.cell? p = some v) (hn : p.block < n) : w'.cell? p = some v := (World.cell?_of_block (h.block _ hn)).trans hp
theorem begin_err {B : List Int} {res : Except Int (List Int × List Int)} {x : Int} (h : res = listS B) (hx : res = .error x) : beginR B = ([], 0, x) := by
  unfold beginR
  rw [← h, hx]
theorem rb_err {W W' : World} {B : List Int} {res : Except Int (List Int × List Int)} {x : Int} (h : res = listS B) (hx : res = .error x) (hB : Below W.heap.size W W') : RbO W (beginR B) (.returned (.tuple #[.slice none 0 0, .int .i64 0, .int .i64 x])) W' := by
  rw [begin_err h hx]
  exact ⟨_, rfl, World.ownsRow_nil _ _ _ _, hB⟩
structure RjI (W : World) (g gx gw bk cl : Nat) (B xs ws l : List Int) (st : Except Int (List Int)) (w : World) : Prop where
  ho : w.ownsRow W.heap.size 2 1 (.slice (some ⟨bk, 0, none⟩) l.length cl) l.length (nums .i64 l)
  hx : w.heap[gx]? = some (.cells (xs.map (Value.int .i64)).toArray 2 (0, 0))
  ha : w.heap[gw]? = some (.cells (ws.map (Value.int .i64)).toArray 91 (0, 0))
  hi : RfI W g B st w
section
variable {W w : World} {g gx gw bk cl : Nat} {B xs ws l : List Int} {st : Except Int (List Int)}
theorem RjI.drawn0 {w' : World} (h : RjI W g gx gw bk cl B xs ws l st w) (hq : Drawn0 w w') : RjI W g gx gw bk cl B xs ws l st w' := by
  obtain ⟨n, rfl⟩ := hq
  exact ⟨pw_own_drewN h.ho n, h.hx, h.ha, rfI_keep h.hi (pw_below_drewN (Below.refl _ _) n)⟩
theorem RjI.draw (h : RjI W g gx gw bk cl B xs ws l st w) : RjI W g gx gw bk cl B xs ws l st w.drew := ⟨h.ho.drew, h.hx, h.ha, rfI_keep h.hi (below_drew1 (Below.refl _ _))⟩
theorem RjI.last (h : RjI W g gx gw bk cl B xs ws l st w) (hl : 1 ≤ l.length) : w.cell? ⟨bk, l.length - 1, none⟩ = some (.int .i64 (rd l ((l.length : Int) - 1))) := by
  have := (own_at h.ho ((l.length : Int) - 1) (by omega) (by omega)).1
  rwa [show ((l.length : Int) - 1).toNat = l.length - 1 by omega] at this
theorem RjI.one {j : Nat} {x : Int} (h : RjI W g gx gw bk cl B xs ws l st w) (hj : xs[j]? = some x) : w.cell? ⟨gx, j, none⟩ = some (.int .i64 x) := by
  rw [blk_cell h.hx j]
  simp [hj]
theorem RjI.base (h : RjI W g gx gw bk cl B xs ws l st w) : W.heap.size ≤ w.heap.size := (rfI_below h.hi).size
theorem RjI.after {w2 : World} (h : RjI W g gx gw bk cl B xs ws l st w) (hg : w.grownBy w2 (some bk)) (hb : Below W.heap.size w w2) (hne : bk ≠ gx) :
    w2.heap[gx]? = some (.cells (xs.map (Value.int .i64)).toArray 2 (0, 0)) ∧ w2.heap[gw]? = some (.cells (ws.map (Value.int .i64)).toArray 91 (0, 0)) ∧ RfI W g B st w2 :=
  ⟨(hg.block gx (blk_lt h.hx) (by simpa using Ne.symm hne)).trans h.hx, (hg.block gw (blk_lt h.ha) (own_ne h.ho h.ha (by decide))).trans h.ha, rfI_grown h.hi hg (rf_ne h.hi h.ho) ((rfI_below h.hi).trans hb)⟩
end
theorem wp_shutQ {P : Program} {Q : Exit → Act → World → Prop} {c : Code} {a : Act} {w : World} (h : c.wp P (Exit.then (fun a w => Q .normal a w) (fun _ _ _ => False)) a w) : c.wp P Q a w :=
  Code.wp_mono (fun e a w hq => by cases e <;> first | exact hq | exact hq.elim) h
theorem own_still {w : World} {bk gx n cl : Nat} {cs : Array Value} {t : TypeId} {v2 : Value} (hx : w.heap[gx]? = some (.cells cs t (0, 0))) (h : v2.ownBlock = (Value.slice (some ⟨bk, 0, none⟩) n cl).ownBlock ∨ ∃ b, v2.ownBlock = some b ∧ w.heap.size ≤ b) (hne : bk ≠ gx) : v2.ownBlock ≠ some gx := by
  rcases h with h | ⟨b, h, hb⟩
  · rw [h]; simpa [Value.ownBlock] using hne
  · rw [h]
    have := blk_lt hx
    simp only [ne_eq, Option.some.injEq]
    omega
theorem rd_of_all {l : List Int} {p : Int → Prop} (h : ∀ x ∈ l, p x) (i : Int) (h0 : 0 ≤ i) (h1 : i < l.length) : p (rd l i) := by
  rw [show i = ((i.toNat : Nat) : Int) by omega, rd_lt l i.toNat (by omega)]
  exact h _ (List.getElem_mem _)
set_option maxRecDepth 100000 in
set_option maxHeartbeats 16000000 in
theorem rb_main (A0 : Option Addr) (c0 : Nat) (B : List Int) (W : World) (hC : Kd.C (Kd.int .u8) W A0 B.length B) (hc : B.length ≤ c0) (hl : B.length ≤ 6000) (hu : ∀ x ∈ B, 0 ≤ x ∧ x ≤ 255) :
    Calls Try.prog 39 #[.slice A0 B.length c0] W (RbO W (beginR B)) := by
  obtain ⟨g, hg⟩ : ∃ g, g = W.heap.size := ⟨_, rfl⟩
  have HNUM := Aside0.mk (fun st Wz (h : RfI W g B st Wz) => rx_number W g B st Wz (by omega) hu h)
  have HSGN := Aside0.mk (fun st Wz (h : RfI W g B st Wz) => rx_signed W g B st Wz (by omega) hu h)
  have HNXT := Aside0.mk (fun st Wz (h : RfI W g B st Wz) => rx_next W g B st Wz (by omega) hu h)
  have HMUST := Aside0.mk (fun st b Wz (h : RfI W g B st Wz) => rf_must W g B st b Wz h)
  have HPACK := Aside0.mk (fun st w Wz (hw : (∃ r, st = .ok r) → 0 ≤ w ∧ w ≤ 64) (h : RfI W g B st Wz) => rx_packed W g B st w Wz (by omega) hu hw h)
  have HADD := Aside0.mk (fun a b Wz (ha : D13.inI a) (hb : D13.inI b) => marquetryref13_Add.calls a b _ Wz (D13.ref_add ha hb))
  have HNEW := Aside0.mk (rf_new W A0 c0 B hC)
  rw [← hg] at HNEW
  obtain ⟨res, hres⟩ : ∃ res, res = listS B := ⟨_, rfl⟩
  have R0 := Aside0.mk (show Rs res (fun r => res = wantS 128 r fun b => wantS 4 b tailS) (.ok B) from hres)
  have HRES := Aside0.mk hres
  have HL := Aside0.mk hl
  have HU := Aside0.mk hu
  have HC := Aside0.mk hC
  have HG := Aside0.mk hg
  clear hC hl hu hres
  go_enter Try.func39, Try.ntmps39
  go_upto_region 9 with fail
  rw [← hg]
  clear hg
  refine (HNUM.out _ _ HNEW.out).mono ?_
  rintro e W1 ⟨v1, st1, rfl, hn1, _, hI1, _⟩
  have R1 := Aside0.mk (Rs.next R0.out hn1)
  have HI1 := Aside0.mk hI1
  clear hn1 hI1 R0 HNEW
  go_upto_region 9 with fail
  refine (HMUST.out _ _ _ HI1.out).mono ?_
  rintro e W2 ⟨rfl, _, hI2⟩
  have R2 := Aside0.mk (rs_after (A := Int) (Rs.must R1.out (byte_eq v1 128)))
  have HI2 := Aside0.mk hI2
  clear hI2 R1 HI1
  go_upto_region 9 with fail
  refine (HNUM.out _ _ HI2.out).mono ?_
  rintro e W3 ⟨v3, st3, rfl, hn3, _, hI3, _⟩
  have R3 := Aside0.mk (Rs.next R2.out hn3)
  have HI3 := Aside0.mk hI3
  clear hn3 hI3 R2 HI2
  go_upto_region 9 with fail
  refine (HMUST.out _ _ _ HI3.out).mono ?_
  rintro e W4 ⟨rfl, _, hI4⟩
  have R4 := Aside0.mk (rs_after (A := Int) (Rs.must R3.out (byte_eq v3 4)))
  have HI4 := Aside0.mk hI4
  clear hI4 R3 HI3
  go_upto_region 9 with fail
  refine (HNUM.out _ _ HI4.out).mono ?_
  rintro e W5 ⟨many, st5, rfl, hn5, _, hI5, _⟩
  have R5 := Aside0.mk (Rs.step (G := fun v r => 0 ≤ v ∧ res = if v ≤ 65536 then andS (mapS sgnV (numS 0 0 r)) fun first b => if v > 0 ∨ first = 0 then (if v = 0 then .ok ([], b) else loopS v 513 1 [first] b) else .error 8 else .error 8) R4.out hn5 (fun r r1 h hp => ⟨(numS_range _ _ _ _ _ hp).1, by rw [h, tailS, hp]; rfl⟩) (fun r x h hp => by rw [h, tailS, hp]; rfl))
  have HI5 := Aside0.mk hI5
  clear hn5 hI5 R4 HI4
  go_upto_region 9 with fail
  refine (HMUST.out _ _ _ HI5.out).mono ?_
  rintro e W6 ⟨rfl, _, hI6⟩
  have R6 := Aside0.mk (show Rs res (fun r => (0 ≤ many ∧ many ≤ 65536) ∧ res = andS (mapS sgnV (numS 0 0 r)) fun first b => if many > 0 ∨ first = 0 then (if many = 0 then .ok ([], b) else loopS many 513 1 [first] b) else .error 8) (mustR (decide (many ≤ 65536)) st5) from by
    cases st5 with
    | error x => exact R5.out
    | ok r =>
      obtain ⟨h1, h2⟩ : 0 ≤ many ∧ res = _ := R5.out
      by_cases c : many ≤ 65536
      · rw [if_pos c] at h2; rw [decide_eq_true c]; exact ⟨⟨h1, c⟩, h2⟩
      · rw [if_neg c] at h2; rw [decide_eq_false c]; exact ⟨h2, by decide⟩)
  have HI6 := Aside0.mk hI6
  clear hI6 R5 HI5
  go_upto_region 9 with fail
  refine (HSGN.out _ _ HI6.out).mono ?_
  rintro e W7 ⟨first, st7, rfl, hn7, hfi, hI7, _⟩
  have R7 := Aside0.mk (Rs.step (G := fun first r => (0 ≤ many ∧ many ≤ 65536) ∧ res = if many > 0 ∨ first = 0 then (if many = 0 then .ok ([], r) else loopS many 513 1 [first] r) else .error 8) R6.out hn7 (fun r r1 h hp => ⟨h.1, by rw [h.2, hp]; rfl⟩) (fun r x h hp => by rw [h.2, hp]; rfl))
  have HI7 := Aside0.mk hI7
  have HFI := Aside0.mk hfi
  clear hn7 hI7 hfi R6 HI6
  go_upto_region 9 with fail
  go_cut [5, 8, 9] from 21 (fun v5 v8 v9 wx => v5 = .pointer (some ⟨g, 0, none⟩) ∧ v8 = .int .u64 many ∧ v9 = .int .i64 first ∧ ∃ st8, Aside0 (RfI W g B st8 wx) ∧ Aside0 (Rs res (fun r => (0 ≤ many ∧ many ≤ 65536) ∧ res = if many = 0 then .ok ([], r) else loopS many 513 1 [first] r) st8))
  case first =>
    by_cases hm : many > 0
    · have d1 : decide (many > 0) = true := decide_eq_true hm
      have R8 := Aside0.mk (show Rs res (fun r => (0 ≤ many ∧ many ≤ 65536) ∧ res = if many = 0 then .ok ([], r) else loopS many 513 1 [first] r) (mustR true st7) from by
        cases st7 with
        | error x => exact R7.out
        | ok r =>
          obtain ⟨h1, h2⟩ : _ ∧ res = _ := R7.out
          rw [if_pos (.inl hm)] at h2
          exact ⟨h1, h2⟩)
      clear hm R7
      go_wp2_with fail
      refine (HMUST.out _ _ _ HI7.out).mono ?_
      rintro e W8 ⟨rfl, _, hI8⟩
      have HI8 := Aside0.mk hI8
      clear hI8 HI7
      go_wp2
      go_meet
      case rel => exact ⟨rfl, rfl, rfl, _, HI8, R8⟩
    · have d1 : decide (many > 0) = false := decide_eq_false hm
      have R8 := Aside0.mk (show Rs res (fun r => (0 ≤ many ∧ many ≤ 65536) ∧ res = if many = 0 then .ok ([], r) else loopS many 513 1 [first] r) (mustR (first == 0) st7) from by
        cases st7 with
        | error x => exact R7.out
        | ok r =>
          obtain ⟨h1, h2⟩ : _ ∧ res = _ := R7.out
          rw [byte_eq]
          by_cases c : first = 0
          · rw [if_pos (.inr c)] at h2; rw [decide_eq_true c]; exact ⟨h1, h2⟩
          · rw [if_neg (fun h => h.elim hm c)] at h2; rw [decide_eq_false c]; exact ⟨h2, by decide⟩)
      clear hm R7
      go_wp2_with fail
      refine (HMUST.out _ _ _ HI7.out).mono ?_
      rintro e W8 ⟨rfl, _, hI8⟩
      have HI8 := Aside0.mk hI8
      clear hI8 HI7
      go_wp2
      go_meet
      case rel => exact ⟨rfl, rfl, rfl, _, HI8, R8⟩
  case rest =>
    obtain ⟨rfl, rfl, rfl, st8, HI8, R8⟩ := hcut
    clear R7 HI7
    cases st8 with
    | error x =>
      obtain ⟨at_, wrong, ⟨A1, c1, hb, hg, hC⟩, ⟨rfl, hx⟩, hB⟩ := HI8.out
      have k2 := (blk_cell hb 2).trans (show _ = some (.int .i64 wrong) from rfl)
      have q0 : (wrong != 0) = true := by simpa using hx
      have HBf := Aside0.mk hB
      clear hb hg hC hx hB HI8
      go_wp2
      go_quiet (fail)
      go_wp2
      go_ret3
      exact rb_err HRES.out R8.out.1 (pw_below_drewN HBf.out _)
    | ok r =>
      have hcv : wrap64 many = many := Bx.w64 (by have := R8.out.1; omega) (by have := R8.out.1; omega)
      have HM := Aside0.mk R8.out.1
      have HR9 := Aside0.mk R8.out.2
      obtain ⟨at_, wrong, ⟨A1, c1, hb, hg, hC⟩, ⟨rfl, hx⟩, hB⟩ := id HI8.out
      have k2 := (blk_cell hb 2).trans (show _ = some (.int .i64 0) from rfl)
      have HBf := Aside0.mk hB
      clear hb hg hC hx hB R8
      go_upto_if 64 with fail
      go_cut [10, 11] from 61 (fun v10 v11 wx => v10 = .int .i64 many ∧ ∃ l, Aside0 (RfI W g B (.ok r) wx) ∧ Aside0 (res = loopS many 513 1 l r) ∧ Aside0 (wx.ownsRow W.heap.size 2 1 v11 l.length (nums .i64 l)) ∧ Aside0 ((l.length : Int) ≤ many ∧ (1 < many → 1 ≤ l.length)) ∧ Aside0 (∀ x ∈ l, D13.inI x))
      case first =>
        by_cases hm : many > 0
        · have d1 : decide (many > 0) = true := decide_eq_true hm
          have HR10 := Aside0.mk (show res = loopS many 513 1 [first] r from by have := HR9.out; rwa [if_neg (by omega)] at this)
          have HM1 := Aside0.mk hm
          have hm2 : 0 < many := hm
          clear hm d1
          go_wp2_with (first
            | ((with_reducible refine gate_builtin (b := .append) (xs := #[.tmp 65, .tmp 67]) rfl ?_); at_builtin; refine print_append_num (w0 := W) W.heap.size rfl (.tmp 65) (.tmp 67) 44 2 .i64 8 rfl Try.underlying44 dl_info (by decide) (.slice none 0 0) [] first rfl rfl (World.ownsRow_nil _ _ _ _) HBf.out HBf.out.size (by decide) ?_; intro v2 w2 ho2 hb2 hg2 hat2; have HO2 := Aside0.mk ho2; have HB2 := Aside0.mk hb2; have HI2 := Aside0.mk (rfI_grown HI8.out hg2 (by simp [Value.ownBlock]) hb2); clear ho2 hb2 hg2 hat2))
          go_meet
          case rel => exact ⟨rfl, [first], HI2, HR10, HO2, ⟨by have := HM1.out; simp; omega, fun _ => by simp⟩, ⟨fun x hx => by rw [List.mem_singleton.1 hx]; exact HFI.out⟩⟩
        · have d1 : decide (many > 0) = false := decide_eq_false hm
          have HR10 := Aside0.mk (show res = loopS many 513 1 [] r from by have := HR9.out; rw [if_pos (by have := HM.out; omega)] at this; rw [this, show (513 : Nat) = 512 + 1 from rfl, loopS, if_neg (by omega)])
          have HM1 := Aside0.mk (show ¬ 1 < many by omega)
          have hm2 : ¬ 0 < many := hm
          clear hm d1
          go_wp2
          go_meet
          case rel => exact ⟨rfl, [], HI8, HR10, ⟨World.ownsRow_nil _ _ _ _⟩, ⟨by simpa using HM.out.1, fun h => absurd h (by have := HM1.out; omega)⟩, ⟨fun x hx => by cases hx⟩⟩
      case rest =>
        obtain ⟨rfl, l, HI, HR, HO, HLL, HLI⟩ := hcut
        have HR0 := Aside0.mk (show Rs res (fun lb => res = loopS many 513 1 l lb) (.ok r) from HR.out)
        clear HI8 HR9 k2 HBf HR hcv
        go_upto_block 0 with fail
        go_cut [11] from 69 (fun v11 wx => ∃ l st, Aside0 (RfI W g B st wx) ∧ Aside0 (Rs res (fun lb => res = .ok (l, lb)) st) ∧ Aside0 (wx.ownsRow W.heap.size 2 1 v11 l.length (nums .i64 l)) ∧ Aside0 (∀ x ∈ l, D13.inI x) ∧ Aside0 (l.length ≤ 65536))
        case first =>
          go_wp2
          go_loopw [11, 12] (fun v11 v12 wr => ∃ (k : Nat) (fr : Int) (l : List Int) (st : Except Int (List Int)), v12 = .int .i64 fr ∧ 1 ≤ fr ∧ fr ≤ 65664 ∧ Aside0 (many - fr < 128 * k) ∧ Aside0 (Rs res (fun lb => res = loopS many k fr l lb) st) ∧ Aside0 (RfI W g B st wr) ∧ Aside0 (wr.ownsRow W.heap.size 2 1 v11 l.length (nums .i64 l)) ∧ Aside0 ((l.length : Int) ≤ many ∧ (1 < many → 1 ≤ l.length)) ∧ Aside0 (∀ x ∈ l, D13.inI x)) (fun _ v12 _ => (70000 - intOf v12).toNat)
          case atStart => exact ⟨513, 1, l, .ok r, rfl, by omega, by omega, ⟨by have := HM.out; omega⟩, HR0, HI, HO, HLL, HLI⟩
          case round =>
            clear HR0 HI HO HLL HLI
            obtain ⟨k, fr, l, st, rfl, hf1, hf2, HK, HR, HI, HO, HLL, HLI⟩ := hrel
            obtain ⟨Al, cl, rfl⟩ := own_formD HO.out
            by_cases hc : fr < many
            · have qc : decide (fr < many) = true := decide_eq_true hc
              cases st with
              | error x =>
                obtain ⟨at_, wrong, ⟨A1, c1, hb, hg, hC⟩, ⟨rfl, hx⟩, hB⟩ := id HI.out
                have k2 := (blk_cell hb 2).trans (show _ = some (.int .i64 wrong) from rfl)
                have q0 : (wrong == 0) = false := beq_eq_false_iff_ne.2 hx
                clear hb hg hC hx hB
                go_wp2
                go_meet
                case rel => exact ⟨l, .error wrong, HI, ⟨HR.out⟩, HO, HLI, ⟨by have := HLL.out; have := HM.out; omega⟩⟩
              | ok lb =>
                obtain ⟨at_, wrong, ⟨A1, c1, hb, hg, hC⟩, ⟨rfl, hx⟩, hB⟩ := id HI.out
                have k2 := (blk_cell hb 2).trans (show _ = some (.int .i64 0) from rfl)
                obtain ⟨k, rfl⟩ : ∃ j, k = j + 1 := ⟨k - 1, by have := HK.out; omega⟩
                have R1 := Aside0.mk (show Rs res (fun r => res = andS (mapS sgnV (numS 0 0 r)) fun least b => andS (widS many fr 4 0 b) fun ws b => andS (partsS many fr least ws 0 l b) fun l b => loopS many k (fr + 128) l b) (.ok lb) from by
                  have h : res = loopS many (k + 1) fr l lb := HR.out
                  rw [loopS, if_pos hc] at h
                  exact h)
                have HF := Aside0.mk (show 1 ≤ fr ∧ fr ≤ 65664 ∧ fr < many from ⟨hf1, hf2, hc⟩)
                clear hb hg hC hx hB HR hf1 hf2 hc
                go_wp2_with fail
                refine (HSGN.out _ _ HI.out).mono ?_
                rintro e W2 ⟨least, st2, rfl, hn2, hle, hI2, hK2⟩
                have R2 := Aside0.mk (Rs.next R1.out hn2)
                have HI2 := Aside0.mk hI2
                have HLE := Aside0.mk hle
                have HO2 := Aside0.mk (rf_own hK2 HI.out HO.out)
                clear hn2 hI2 hK2 hle R1 HI HO k2 qc
                go_wp2
                refine wp_named fun W3 hW3 => ?_
                obtain ⟨gw, hgw⟩ : ∃ gw, gw = W2.heap.size := ⟨_, rfl⟩
                rw [← hgw]
                have HI3 := Aside0.mk (show RfI W g B st2 W3 from (by rw [hW3]; exact rfI_keep HI2.out (below_alloc (Below.refl _ _) _)))
                have HO3 := Aside0.mk (show W3.ownsRow W.heap.size 2 1 (.slice Al l.length cl) l.length (nums .i64 l) from (by rw [hW3]; exact HO2.out.alloc _))
                have HA3 := Aside0.mk (show W3.heap[gw]? = some (.cells (([0, 0, 0, 0] : List Int).map (Value.int .i64)).toArray 91 (0, 0)) from (by rw [hW3, hgw]; exact blk_new _ _))
                have HGW := Aside0.mk (show W.heap.size ≤ gw from (by rw [hgw]; exact (rfI_below HI2.out).size))
                have R3 := Aside0.mk (show Rs res (fun r => (∀ x ∈ ([0, 0, 0, 0] : List Int).take 0, 0 ≤ x ∧ x ≤ 64) ∧ res = andS (widS many fr (4 - 0) 0 r) fun ws' b => andS (partsS many fr least (([0, 0, 0, 0] : List Int).take 0 ++ ws') 0 l b) fun l b => loopS many k (fr + 128) l b) st2 from R2.out.imp fun r h => ⟨fun x hx => (by cases hx), h⟩)
                clear hW3 hgw HI2 HO2 R2
                have hu80 := Try.underlying91
                go_loopw [15] (fun v15 wr => ∃ (i : Nat) (ws : List Int) (st : Except Int (List Int)), v15 = .int .i64 i ∧ i ≤ 4 ∧ Aside0 (ws.length = 4) ∧ Aside0 (Rs res (fun r => (∀ x ∈ ws.take i, 0 ≤ x ∧ x ≤ 64) ∧ res = andS (widS many fr (4 - i) i r) fun ws' b => andS (partsS many fr least (ws.take i ++ ws') 0 l b) fun l b => loopS many k (fr + 128) l b) st) ∧ Aside0 (wr.heap[gw]? = some (.cells (ws.map (Value.int .i64)).toArray 91 (0, 0))) ∧ Aside0 (RfI W g B st wr) ∧ Aside0 (wr.ownsRow W.heap.size 2 1 (.slice Al l.length cl) l.length (nums .i64 l))) (fun v15 _ => 4 - (intOf v15).toNat)
                case atStart => exact ⟨0, [0, 0, 0, 0], st2, rfl, by omega, ⟨rfl⟩, R3, HA3, HI3, HO3⟩
                case round =>
                  clear R3 HA3 HI3 HO3
                  obtain ⟨i, ws, st, rfl, hi, HWL, HR, HA, HI, HO⟩ := hrel
                  by_cases hi4 : i < 4
                  · have qi : decide ((i : Int) < 4) = true := decide_eq_true (by omega)
                    have Hi4 := Aside0.mk hi4
                    have HN := Aside0.mk (HNXT.out st wr HI.out)
                    clear hi
                    go_wp2_with fail
                    refine HN.out.mono ?_
                    rintro e W4 ⟨v, st4, rfl, hn4, hvr, hI4, hK4⟩
                    have hcv : wrap64 v = v := Bx.w64 (by omega) (by omega)
                    have R4 := Aside0.mk (Rs.step (G := fun v r1 => (∀ x ∈ ws.take i, 0 ≤ x ∧ x ≤ 64) ∧ res = if v ≤ 64 ∧ (v = 0 ∨ fr + 32 * (i : Int) < many) then andS (widS many fr (3 - i) (i + 1) r1) (fun ws' b => andS (partsS many fr least (ws.take i ++ v :: ws') 0 l b) fun l b => loopS many k (fr + 128) l b) else .error 8) HR.out hn4 (fun r r1 h hp => ⟨h.1, by
                        have h := h.2
                        rw [show 4 - i = (3 - i) + 1 by have := Hi4.out; omega, widS, hp, andS_ok] at h
                        by_cases cc : v ≤ 64 ∧ (v = 0 ∨ fr + 32 * (i : Int) < many)
                        · rw [if_pos cc] at h ⊢
                          rw [assocS h]
                          rfl
                        · rw [if_neg cc] at h ⊢
                          exact h⟩) (fun r x h hp => by
                        have h := h.2
                        rw [show 4 - i = (3 - i) + 1 by have := Hi4.out; omega, widS, hp, andS_err, andS_err] at h
                        exact h))
                    have HI4 := Aside0.mk hI4
                    have HO4 := Aside0.mk (rf_own hK4 HI.out HO.out)
                    have HA4 := Aside0.mk (rf_blk hK4 HI.out HA.out (by decide))
                    have HVR := Aside0.mk hvr
                    have hw1 : IntKind.i64.wrap (32 * (i : Int)) = 32 * (i : Int) := IntWalk.i64_in _ (by have := Hi4.out; omega)
                    have hw2 : IntKind.i64.wrap (fr + 32 * (i : Int)) = fr + 32 * (i : Int) := IntWalk.i64_in _ (by have := Hi4.out; have := HF.out; have := HM.out; omega)
                    have cA : W4.cell? ⟨gw, i, none⟩ = some (.int .i64 (rd ws (i : Int))) := by
                      rw [blk_cell HA4.out i]
                      have := HWL.out
                      simp only [List.getElem?_toArray, List.getElem?_map]
                      rw [List.getElem?_eq_getElem (by omega), rd_lt ws i (by omega)]
                      rfl
                    have fA : W4.frozen? ⟨gw, i, none⟩ = false := blk_frozen HA4.out i
                    have f11 : (0 : Int) ≤ (i : Int) := by omega
                    have f12 : (i : Int) < 4 := by have := Hi4.out; omega
                    have f13 : ((i : Int)).toNat = i := rfl
                    have hgne : g ≠ gw := by
                      obtain ⟨_, _, hs, _⟩ := HI4.out
                      exact hs.ne_blk HA4.out (by decide)
                    have HGNE := Aside0.mk hgne
                    have HI5 := Aside0.mk (show RfI W g B st4 (W4.setCell ⟨gw, i, none⟩ (.int .i64 v)) from by
                      obtain ⟨a1, a2, hs, h2, h3⟩ := HI4.out
                      exact ⟨a1, a2, hs.far (by simpa using HGNE.out) _, h2, Below.setCell h3 (by simpa using HGW.out) _⟩)
                    have HEND := Aside0.mk (fun (b : Bool) (hb : b = decide (v ≤ 64 ∧ (v = 0 ∨ fr + 32 * (i : Int) < many))) (W6 : World) (h6 : KeepBut (W4.setCell ⟨gw, i, none⟩ (.int .i64 v)) W6 g none) (hI6 : RfI W g B (mustR b st4) W6) => show ∃ (i' : Nat) (ws : List Int) (st : Except Int (List Int)), ((i : Int) + 1) = (i' : Int) ∧ i' ≤ 4 ∧ Aside0 (ws.length = 4) ∧ Aside0 (Rs res (fun r => (∀ x ∈ ws.take i', 0 ≤ x ∧ x ≤ 64) ∧ res = andS (widS many fr (4 - i') i' r) fun ws' b => andS (partsS many fr least (ws.take i' ++ ws') 0 l b) fun l b => loopS many k (fr + 128) l b) st) ∧ Aside0 (W6.heap[gw]? = some (.cells (ws.map (Value.int .i64)).toArray 91 (0, 0))) ∧ Aside0 (RfI W g B st W6) ∧ Aside0 (W6.ownsRow W.heap.size 2 1 (.slice Al l.length cl) l.length (nums .i64 l)) from by
                      have hA5 := blk_set HA4.out i (.int .i64 v)
                      rw [List.setIfInBounds_toArray, ← List.map_set] at hA5
                      refine ⟨i + 1, ws.set i v, mustR b st4, by omega, by have := Hi4.out; omega, ⟨by rw [List.length_set]; exact HWL.out⟩, ⟨?_⟩, ⟨rf_blk h6 HI5.out hA5 (by decide)⟩, ⟨hI6⟩, ⟨rf_own h6 HI5.out (own_setCell HO4.out (own_ne HO4.out HA4.out (by decide)) _)⟩⟩
                      rw [take_set (by rw [HWL.out]; exact Hi4.out), show 4 - (i + 1) = 3 - i by omega]
                      simp only [List.append_assoc, List.singleton_append]
                      have R4 := R4.out
                      subst hb
                      cases st4 with
                      | error x => exact R4
                      | ok r =>
                        obtain ⟨h1, h2⟩ : (∀ x ∈ ws.take i, 0 ≤ x ∧ x ≤ 64) ∧ res = _ := R4
                        by_cases c : v ≤ 64 ∧ (v = 0 ∨ fr + 32 * (i : Int) < many)
                        · rw [if_pos c] at h2
                          rw [decide_eq_true c]
                          refine ⟨fun x hx => ?_, h2⟩
                          rcases List.mem_append.1 hx with hx | hx
                          · exact h1 x hx
                          · rw [List.mem_singleton.1 hx]; exact ⟨HVR.out.1, c.1⟩
                        · rw [if_neg c] at h2
                          rw [decide_eq_false c]
                          exact ⟨h2, by decide⟩)
                    clear hn4 hvr hI4 hK4 HR HI HO HA hi4 HN hgne R4 HO4 HI4
                    by_cases c64 : v ≤ 64
                    · have q1 : decide (v ≤ 64) = true := decide_eq_true c64
                      by_cases cz : v = 0
                      · have q2 : (v == 0) = true := beq_iff_eq.2 cz
                        have HBV := Aside0.mk (show true = decide (v ≤ 64 ∧ (v = 0 ∨ fr + 32 * (i : Int) < many)) from (decide_eq_true ⟨c64, .inl cz⟩).symm)
                        clear c64 cz
                        go_wp2_with fail
                        refine (HMUST.out _ _ _ HI5.out).mono ?_
                        rintro e W6 ⟨rfl, hK6, hI6⟩
                        have HE := Aside0.mk (HEND.out _ (HBV.out) _ hK6 hI6)
                        clear hK6 hI6 HEND HI5 cA fA hcv
                        go_wp2
                        go_roundw
                        case rel =>
                          obtain ⟨i', ws', st', e1, h⟩ := HE.out
                          exact ⟨i', ws', st', by rw [← e1], h⟩
                        case measure => exact meas_up Hi4.out
                      · have q2 : (v == 0) = false := beq_eq_false_iff_ne.2 cz
                        have HBV := Aside0.mk (show decide (fr + 32 * (i : Int) < many) = decide (v ≤ 64 ∧ (v = 0 ∨ fr + 32 * (i : Int) < many)) from decide_eq_decide.2 ⟨fun h => ⟨c64, .inr h⟩, fun h => h.2.resolve_left cz⟩)
                        clear c64 cz
                        go_wp2_with fail
                        refine (HMUST.out _ _ _ HI5.out).mono ?_
                        rintro e W6 ⟨rfl, hK6, hI6⟩
                        have HE := Aside0.mk (HEND.out _ (HBV.out) _ hK6 hI6)
                        clear hK6 hI6 HEND HI5 cA fA hcv
                        go_wp2
                        go_roundw
                        case rel =>
                          obtain ⟨i', ws', st', e1, h⟩ := HE.out
                          exact ⟨i', ws', st', by rw [← e1], h⟩
                        case measure => exact meas_up Hi4.out
                    · have q1 : decide (v ≤ 64) = false := decide_eq_false c64
                      have HBV := Aside0.mk (show false = decide (v ≤ 64 ∧ (v = 0 ∨ fr + 32 * (i : Int) < many)) from (decide_eq_false (fun h => c64 h.1)).symm)
                      clear c64
                      go_wp2_with fail
                      refine (HMUST.out _ _ _ HI5.out).mono ?_
                      rintro e W6 ⟨rfl, hK6, hI6⟩
                      have HE := Aside0.mk (HEND.out _ (HBV.out) _ hK6 hI6)
                      clear hK6 hI6 HEND HI5 cA fA hcv
                      go_wp2
                      go_roundw
                      case rel =>
                        obtain ⟨i', ws', st', e1, h⟩ := HE.out
                        exact ⟨i', ws', st', by rw [← e1], h⟩
                      case measure => exact meas_up Hi4.out
                  · have hie : i = 4 := by omega
                    have qi : decide ((i : Int) < 4) = false := decide_eq_false (by omega)
                    have R5 := Aside0.mk (show Rs res (fun r => (∀ x ∈ ws, 0 ≤ x ∧ x ≤ 64) ∧ res = andS (partsS many fr least (ws.drop 0) 0 l r) fun l b => loopS many k (fr + 128) l b) st from HR.out.imp fun r h => by
                      rw [List.take_of_length_le (by have := HWL.out; omega), show 4 - i = 0 by omega, widS, andS_ok, List.append_nil] at h
                      exact h)
                    clear HR hi hi4 hie
                    go_wp2
                    go_loopw [11, 16] (fun v11 v16 wr => ∃ (p : Nat) (l : List Int) (st : Except Int (List Int)), v16 = .int .i64 p ∧ p ≤ 4 ∧ Aside0 (Rs res (fun r => (∀ x ∈ ws, 0 ≤ x ∧ x ≤ 64) ∧ res = andS (partsS many fr least (ws.drop p) p l r) fun l b => loopS many k (fr + 128) l b) st) ∧ Aside0 (wr.heap[gw]? = some (.cells (ws.map (Value.int .i64)).toArray 91 (0, 0))) ∧ Aside0 (RfI W g B st wr) ∧ Aside0 (wr.ownsRow W.heap.size 2 1 v11 l.length (nums .i64 l)) ∧ Aside0 ((l.length : Int) ≤ many ∧ (1 < many → 1 ≤ l.length)) ∧ Aside0 (∀ x ∈ l, D13.inI x)) (fun _ v16 _ => 4 - (intOf v16).toNat)
                    case atStart => exact ⟨0, l, st, rfl, by omega, R5, HA, HI, HO, HLL, HLI⟩
                    case round =>
                      clear R5 HA HI HO HLL HLI
                      obtain ⟨p, l, st, rfl, hp, HR, HA, HI, HO, HLL, HLI⟩ := hrel
                      obtain ⟨Al, cl, rfl⟩ := own_formD HO.out
                      have hw3 : IntKind.i64.wrap (fr + 128) = fr + 128 := IntWalk.i64_in _ (by have := HF.out; omega)
                      have HOUT := Aside0.mk (fun (hx : p = 4 ∨ fr + 32 * (p : Int) ≥ many) => show ∃ (k : Nat) (fr' : Int) (l' : List Int) (st : Except Int (List Int)), fr + 128 = fr' ∧ 1 ≤ fr' ∧ fr' ≤ 65664 ∧ Aside0 (many - fr' < 128 * k) ∧ Aside0 (Rs res (fun lb => res = loopS many k fr' l' lb) st) ∧ Aside0 (RfI W g B st wr) ∧ Aside0 (wr.ownsRow W.heap.size 2 1 (.slice Al l.length cl) l'.length (nums .i64 l')) ∧ Aside0 ((l'.length : Int) ≤ many ∧ (1 < many → 1 ≤ l'.length)) ∧ Aside0 (∀ x ∈ l', D13.inI x) from by
                        refine ⟨k, fr + 128, l, st, rfl, by have := HF.out; omega, by have := HF.out; have := HM.out; omega, ⟨by have := HK.out; omega⟩, ⟨HR.out.imp fun r h => ?_⟩, HI, HO, HLL, HLI⟩
                        have h := h.2
                        cases hd : ws.drop p with
                        | nil => rw [hd, partsS] at h; exact h
                        | cons a t =>
                          rw [hd, partsS] at h
                          rcases hx with hx | hx
                          · have hz : ws.drop p = [] := List.drop_of_length_le (by have := HWL.out; omega)
                            rw [hz] at hd; cases hd
                          · rw [if_pos hx] at h; exact h)
                      have HMEAS := Aside0.mk (show (70000 - intOf (.int .i64 (fr + 128))).toNat < (70000 - intOf (.int .i64 fr)).toNat from by have := HF.out; have := HM.out; simp [intOf]; omega)
                      by_cases hp4 : p < 4
                      · have qp : decide ((p : Int) < 4) = true := decide_eq_true (by omega)
                        have hw1 : IntKind.i64.wrap (32 * (p : Int)) = 32 * (p : Int) := IntWalk.i64_in _ (by omega)
                        have hw2 : IntKind.i64.wrap (fr + 32 * (p : Int)) = fr + 32 * (p : Int) := IntWalk.i64_in _ (by have := HF.out; have := HM.out; omega)
                        have Hp4 := Aside0.mk hp4
                        by_cases hpm : fr + 32 * (p : Int) < many
                        · have q2 : decide (fr + 32 * (p : Int) < many) = true := decide_eq_true hpm
                          have HPM := Aside0.mk hpm
                          clear hp HOUT HMEAS hw3
                          obtain ⟨x, hx⟩ : ∃ x, ws[p]? = some x := ⟨_, List.getElem?_eq_getElem (by rw [HWL.out]; exact hp4)⟩
                          have hdr : ws.drop p = x :: ws.drop (p + 1) := by
                            obtain ⟨hlt, hge⟩ := List.getElem?_eq_some_iff.1 hx
                            rw [List.drop_eq_getElem_cons hlt, hge]
                          have cW : wr.cell? ⟨gw, p, none⟩ = some (.int .i64 x) := by
                            rw [blk_cell HA.out p]
                            simp [hx]
                          have f11 : (0 : Int) ≤ (p : Int) := by omega
                          have f12 : (p : Int) < 4 := by omega
                          have f13 : ((p : Int)).toNat = p := rfl
                          have HP := Aside0.mk (HPACK.out st x wr (fun ⟨r, hr⟩ => by
                            have h := HR.out
                            rw [hr] at h
                            exact h.1 x (List.mem_of_getElem? hx)) HI.out)
                          have RP := Aside0.mk (show Rs res (fun r => (∀ x ∈ ws, 0 ≤ x ∧ x ≤ 64) ∧ res = andS (packedS x.toNat r) fun xs b => andS (partsS many fr least (ws.drop (p + 1)) (p + 1) (addS many least xs l) b) fun l b => loopS many k (fr + 128) l b) st from HR.out.imp fun r h => ⟨h.1, by
                            have h := h.2
                            rw [hdr, partsS, if_neg (by omega)] at h
                            exact assocS h⟩)
                          clear hx hdr HR hp4 hpm
                          go_wp2_with fail
                          refine HP.out.mono ?_
                          rintro e W6 ⟨gx, xs, st6, rfl, hK6, hgx, hxl, hxi, hbx, hn6, hI6⟩
                          have R6 := Aside0.mk (Rs.step (G := fun xs r => (∀ x ∈ ws, 0 ≤ x ∧ x ≤ 64) ∧ res = andS (partsS many fr least (ws.drop (p + 1)) (p + 1) (addS many least xs l) r) fun l b => loopS many k (fr + 128) l b) RP.out hn6 (fun r r1 h hp => ⟨h.1, by rw [h.2, hp]; rfl⟩) (fun r x h hp => by rw [h.2, hp]; rfl))
                          have HI6 := Aside0.mk hI6
                          have HA6 := Aside0.mk (rf_blk hK6 HI.out HA.out (by decide))
                          have HO6 := Aside0.mk (rf_own hK6 HI.out HO.out)
                          have HX6 := Aside0.mk hbx
                          have HXL := Aside0.mk hxl
                          have HXI := Aside0.mk hxi
                          have HXN := Aside0.mk (show (Value.slice Al l.length cl).ownBlock ≠ some gx from own_old HO.out hgx)
                          obtain ⟨lf, hlf⟩ : ∃ lf, lf = addS many least xs l := ⟨_, rfl⟩
                          rw [← hlf] at R6
                          have HLF := Aside0.mk (show addS many least (xs.drop 0) l = lf from by rw [List.drop_zero]; exact hlf.symm)
                          have H1M := Aside0.mk (show 1 < many from by have := HF.out; omega)
                          clear hK6 hgx hxl hxi hbx hn6 hI6 hlf RP HP HI HA HO cW f11 f12 f13 qp hw1 hw2
                          go_wp2
                          go_loopw [11, 18] (fun v11 v18 wr => ∃ (j : Nat) (l : List Int), v18 = .int .i64 j ∧ j ≤ 32 ∧ Aside0 (addS many least (xs.drop j) l = lf) ∧ Aside0 (wr.heap[gx]? = some (.cells (xs.map (Value.int .i64)).toArray 2 (0, 0))) ∧ Aside0 (wr.heap[gw]? = some (.cells (ws.map (Value.int .i64)).toArray 91 (0, 0))) ∧ Aside0 (RfI W g B st6 wr) ∧ Aside0 (wr.ownsRow W.heap.size 2 1 v11 l.length (nums .i64 l)) ∧ Aside0 (v11.ownBlock ≠ some gx) ∧ Aside0 ((l.length : Int) ≤ many ∧ (1 < many → 1 ≤ l.length)) ∧ Aside0 (∀ x ∈ l, D13.inI x)) (fun _ v18 _ => 32 - (intOf v18).toNat)
                          case atStart => exact ⟨0, l, rfl, by omega, HLF, HX6, HA6, HI6, HO6, HXN, HLL, HLI⟩
                          case round =>
                            clear HLF HX6 HA6 HI6 HO6 HXN HLL HLI
                            obtain ⟨j, l, rfl, hj, HLF, HX, HA, HI, HO, HXN, HLL, HLI⟩ := hrel
                            obtain ⟨Al, cl, rfl⟩ := own_formD HO.out
                            have hw4 : IntKind.i64.wrap ((p : Int) + 1) = (p : Int) + 1 := IntWalk.i64_in _ (by have := Hp4.out; omega)
                            have HOUT := Aside0.mk (fun (hx : l = lf) => show ∃ (p' : Nat) (l' : List Int) (st : Except Int (List Int)), ((p : Int) + 1) = (p' : Int) ∧ p' ≤ 4 ∧ Aside0 (Rs res (fun r => (∀ x ∈ ws, 0 ≤ x ∧ x ≤ 64) ∧ res = andS (partsS many fr least (ws.drop p') p' l' r) fun l b => loopS many k (fr + 128) l b) st) ∧ Aside0 (wr.heap[gw]? = some (.cells (ws.map (Value.int .i64)).toArray 91 (0, 0))) ∧ Aside0 (RfI W g B st wr) ∧ Aside0 (wr.ownsRow W.heap.size 2 1 (.slice Al l.length cl) l'.length (nums .i64 l')) ∧ Aside0 ((l'.length : Int) ≤ many ∧ (1 < many → 1 ≤ l'.length)) ∧ Aside0 (∀ x ∈ l', D13.inI x) from
                              ⟨p + 1, l, st6, by omega, Hp4.out, ⟨by rw [hx]; exact R6.out⟩, HA, HI, HO, HLL, HLI⟩)
                            by_cases hj32 : j < 32
                            · have q5 : decide ((j : Int) < 32) = true := decide_eq_true (by omega)
                              by_cases hlm : (l.length : Int) < many
                              · have q6 : decide ((l.length : Int) < many) = true := decide_eq_true hlm
                                have HLM := Aside0.mk hlm
                                have Hj := Aside0.mk hj32
                                obtain ⟨bk, cap, hbq, hbk, _⟩ := HO.out.form (by have := HLL.out.2 H1M.out; omega)
                                obtain ⟨rfl, rfl⟩ : Al = some ⟨bk, 0, none⟩ ∧ cl = cap := by simpa using hbq
                                obtain ⟨x, hx⟩ : ∃ x, xs[j]? = some x := ⟨_, List.getElem?_eq_getElem (by rw [HXL.out]; exact hj32)⟩
                                have hdr : xs.drop j = x :: xs.drop (j + 1) := by
                                  obtain ⟨hlt, hge⟩ := List.getElem?_eq_some_iff.1 hx
                                  rw [List.drop_eq_getElem_cons hlt, hge]
                                have HJ := Aside0.mk (show RjI W g gx gw bk cl B xs ws l st6 wr from ⟨HO.out, HX.out, HA.out, HI.out⟩)
                                have HNE := Aside0.mk (show bk ≠ gx from fun h => HXN.out (by rw [h]; rfl))
                                obtain ⟨y, hy⟩ : ∃ y, y = rd l ((l.length : Int) - 1) := ⟨_, rfl⟩
                                have HY := Aside0.mk hy
                                have HYI := Aside0.mk (show D13.inI y from by rw [hy]; exact rd_of_all HLI.out _ (by have := HLL.out.2 H1M.out; omega) (by omega))
                                have HXI2 := Aside0.mk (show D13.inI x from HXI.out x (List.mem_of_getElem? hx))
                                have HL1 := Aside0.mk (show 1 ≤ l.length from HLL.out.2 H1M.out)
                                have HXX := Aside0.mk hx
                                have HLF2 := Aside0.mk (show addS many least (xs.drop (j + 1)) (l ++ [wrap64 (y + wrap64 (least + x))]) = lf from by
                                  have h := HLF.out
                                  rw [hdr, addS, if_neg (by omega)] at h
                                  rw [hy]
                                  exact h)
                                have e1 : IntKind.i64.wrap ((l.length : Int) - 1) = (l.length : Int) - 1 := IntWalk.i64_in _ (by have := HLL.out; have := HM.out; omega)
                                have e2 : 0 ≤ (l.length : Int) - 1 := by have := HL1.out; omega
                                have e3 : ((l.length : Int) - 1).toNat = l.length - 1 := by have := HL1.out; omega
                                have e5 : 1 ≤ (l.length : Int) := by have := HL1.out; omega
                                have e4 : (l.length : Int) - 1 < l.length := by omega
                                have e6 : (0 : Int) ≤ (j : Int) := by omega
                                have e7 : (j : Int) < 32 := by omega
                                have e8 : ((j : Int)).toNat = j := rfl
                                have hw4 : IntKind.i64.wrap ((j : Int) + 1) = (j : Int) + 1 := IntWalk.i64_in _ (by omega)
                                clear hj32 hlm hj HOUT hbq hbk hy hx hdr HO HX HA HI HXN HLF
                                go_wp2
                                refine wp_shutQ ?_
                                refine wp_region_any (by kernel_rfl) ?_
                                refine any_named fun w3 hw3 => ?_
                                replace HJ := Aside0.mk (show RjI W g gx gw bk cl B xs ws l st6 w3 from (by rw [hw3]; exact HJ.out.draw))
                                clear hw3
                                refine wpAny_take (i := 0) (oi := { dst := some 139, op := Op.move (Operand.tmp 11), type := 44, pos := "ref.go:263", after := #[], guard := none }) (v := .slice (some ⟨bk, 0, none⟩) l.length cl) rfl (by kernel_rfl) (by kernel_rfl) (by kernel_rfl) (fun _ _ _ h => h) (Or.inl ⟨by rfl, ?_⟩) ?_
                                · (intro w; go_simp)
                                try simp only [Act.put, List.setIfInBounds_toArray, List.set_cons_zero, List.set_cons_succ]
                                refine wpAny_take (i := 1) (oi := { dst := some 140, op := Op.move (Operand.tmp 11), type := 44, pos := "ref.go:263", after := #[], guard := none }) (v := .slice (some ⟨bk, 0, none⟩) l.length cl) rfl (by kernel_rfl) (by kernel_rfl) (by kernel_rfl) (fun _ _ _ h => h) (Or.inl ⟨by rfl, ?_⟩) ?_
                                · (intro w; go_simp)
                                try simp only [Act.put, List.setIfInBounds_toArray, List.set_cons_zero, List.set_cons_succ]
                                refine wpAny_take (i := 2) (oi := { dst := some 141, op := Op.move (Operand.tmp 11), type := 44, pos := "ref.go:263", after := #[], guard := none }) (v := .slice (some ⟨bk, 0, none⟩) l.length cl) rfl (by kernel_rfl) (by kernel_rfl) (by kernel_rfl) (fun _ _ _ h => h) (Or.inl ⟨by rfl, ?_⟩) ?_
                                · (intro w; go_simp)
                                try simp only [Act.put, List.setIfInBounds_toArray, List.set_cons_zero, List.set_cons_succ]
                                refine wpAny_take (i := 3) (oi := { dst := some 142, op := Op.call { callee := Callee.builtin Builtin.len, args := #[Operand.tmp 141], argTypes := #[44] }, type := 3, pos := "ref.go:263", after := #[{ on := 2, ground := Ground.data }], guard := none }) (v := .int .i64 l.length) rfl (by kernel_rfl) (by kernel_rfl) (by kernel_rfl) (fun _ _ _ h => h) (Or.inl ⟨by rfl, ?_⟩) ?_
                                · (intro w; go_simp)
                                try simp only [Act.put, List.setIfInBounds_toArray, List.set_cons_zero, List.set_cons_succ]
                                refine wpAny_take (i := 4) (oi := { dst := some 143, op := Op.binOp BinOp.sub 3 (Operand.tmp 142) (Operand.const (Value.int IntKind.i64 1)) 3, type := 3, pos := "ref.go:263", after := #[{ on := 3, ground := Ground.data }], guard := none }) (v := .int .i64 ((l.length : Int) - 1)) rfl (by kernel_rfl) (by kernel_rfl) (by kernel_rfl) (fun _ _ _ h => h) (Or.inl ⟨by rfl, ?_⟩) ?_
                                · (intro w; go_simp)
                                try simp only [Act.put, List.setIfInBounds_toArray, List.set_cons_zero, List.set_cons_succ]
                                refine wpAny_take (i := 5) (oi := { dst := some 144, op := Op.indexAddr 44 (Operand.tmp 140) (Operand.tmp 143), type := 0, pos := "ref.go:263", after := #[{ on := 1, ground := Ground.data }, { on := 4, ground := Ground.data }], guard := none }) (v := .pointer (some ⟨bk, l.length - 1, none⟩)) rfl (by kernel_rfl) (by kernel_rfl) (by kernel_rfl) (fun _ _ _ h => h) (Or.inl ⟨by rfl, ?_⟩) ?_
                                · (intro w; go_simp)
                                try simp only [Act.put, List.setIfInBounds_toArray, List.set_cons_zero, List.set_cons_succ]
                                refine wpAny_take (i := 7) (oi := { dst := some 146, op := Op.move (Operand.tmp 13), type := 2, pos := "ref.go:263", after := #[], guard := none }) (v := .int .i64 least) rfl (by kernel_rfl) (by kernel_rfl) (by kernel_rfl) (fun _ _ _ h => h) (Or.inl ⟨by rfl, ?_⟩) ?_
                                · (intro w; go_simp)
                                try simp only [Act.put, List.setIfInBounds_toArray, List.set_cons_zero, List.set_cons_succ]
                                refine wpAny_take (i := 8) (oi := { dst := some 147, op := Op.move (Operand.tmp 17), type := 44, pos := "ref.go:263", after := #[], guard := none }) (v := .slice (some ⟨gx, 0, none⟩) 32 32) rfl (by kernel_rfl) (by kernel_rfl) (by kernel_rfl) (fun _ _ _ h => h) (Or.inl ⟨by rfl, ?_⟩) ?_
                                · (intro w; go_simp)
                                try simp only [Act.put, List.setIfInBounds_toArray, List.set_cons_zero, List.set_cons_succ]
                                refine wpAny_take (i := 9) (oi := { dst := some 148, op := Op.move (Operand.tmp 18), type := 3, pos := "ref.go:263", after := #[], guard := none }) (v := .int .i64 j) rfl (by kernel_rfl) (by kernel_rfl) (by kernel_rfl) (fun _ _ _ h => h) (Or.inl ⟨by rfl, ?_⟩) ?_
                                · (intro w; go_simp)
                                try simp only [Act.put, List.setIfInBounds_toArray, List.set_cons_zero, List.set_cons_succ]
                                refine wpAny_take (i := 10) (oi := { dst := some 149, op := Op.indexAddr 44 (Operand.tmp 147) (Operand.tmp 148), type := 0, pos := "ref.go:263", after := #[{ on := 8, ground := Ground.data }, { on := 9, ground := Ground.data }], guard := none }) (v := .pointer (some ⟨gx, j, none⟩)) rfl (by kernel_rfl) (by kernel_rfl) (by kernel_rfl) (fun _ _ _ h => h) (Or.inl ⟨by rfl, ?_⟩) ?_
                                · (intro w; go_simp)
                                try simp only [Act.put, List.setIfInBounds_toArray, List.set_cons_zero, List.set_cons_succ]
                                refine wpAny_ready (rs := [6, 11]) (by kernel_rfl) (by simp) ?_
                                refine AllReady.cons (o := { dst := some 145, op := Op.load 2 (Operand.tmp 144), type := 2, pos := "ref.go:263", after := #[{ on := 5, ground := Ground.data }], guard := none }) rfl (fun K hK => ?_) ?_
                                · have c1 : w3.cell? ⟨bk, l.length - 1, none⟩ = some (.int .i64 y) := (HJ.out.last HL1.out).trans (by rw [HY.out])
                                  go_simp
                                  clear c1
                                  refine hK _ _ ?_
                                  clear hK K
                                  try simp only [Act.put, List.setIfInBounds_toArray, List.set_cons_zero, List.set_cons_succ]
                                  refine wpAny_ready (rs := [11]) (by kernel_rfl) (by simp) ?_
                                  refine AllReady.cons (o := { dst := some 150, op := Op.load 2 (Operand.tmp 149), type := 2, pos := "ref.go:263", after := #[{ on := 10, ground := Ground.data }], guard := none }) rfl (fun K hK => ?_) ?_
                                  · have c2 : w3.cell? ⟨gx, j, none⟩ = some (.int .i64 x) := HJ.out.one HXX.out
                                    go_simp
                                    clear c2
                                    refine hK _ _ ?_
                                    clear hK K
                                    try simp only [Act.put, List.setIfInBounds_toArray, List.set_cons_zero, List.set_cons_succ]
                                    refine wpAny_ready (rs := [12]) (by kernel_rfl) (by simp) ?_
                                    refine AllReady.cons (o := { dst := some 151, op := Op.call { callee := Callee.value (Operand.func 59), args := #[Operand.tmp 146, Operand.tmp 150], argTypes := #[2, 2] }, type := 2, pos := "ref.go:263", after := #[{ on := 7, ground := Ground.data }, { on := 11, ground := Ground.data }], guard := none }) rfl (fun K hK => ?_) ?_
                                    · go_simp
                                      go_at_call 59
                                      refine (HADD.out least x _ HLE.out HXI2.out).mono ?_
                                      rintro e wq12 ⟨rfl, hq⟩
                                      replace HJ := Aside0.mk (HJ.out.drawn0 hq)
                                      clear hq
                                      refine hK _ _ ?_
                                      clear hK K
                                      try simp only [Act.put, List.setIfInBounds_toArray, List.set_cons_zero, List.set_cons_succ]
                                      refine wpAny_ready (rs := [13]) (by kernel_rfl) (by simp) ?_
                                      refine AllReady.cons (o := { dst := some 152, op := Op.call { callee := Callee.value (Operand.func 59), args := #[Operand.tmp 145, Operand.tmp 151], argTypes := #[2, 2] }, type := 2, pos := "ref.go:263", after := #[{ on := 6, ground := Ground.data }, { on := 12, ground := Ground.data }, { on := 12, ground := Ground.chain }], guard := none }) rfl (fun K hK => ?_) ?_
                                      · go_simp
                                        go_at_call 59
                                        refine (HADD.out y (wrap64 (least + x)) _ HYI.out (D13.wrap_in _)).mono ?_
                                        rintro e wq13 ⟨rfl, hq⟩
                                        replace HJ := Aside0.mk (HJ.out.drawn0 hq)
                                        clear hq
                                        refine hK _ _ ?_
                                        clear hK K
                                        try simp only [Act.put, List.setIfInBounds_toArray, List.set_cons_zero, List.set_cons_succ]
                                        refine wpAny_ready (rs := [14]) (by kernel_rfl) (by simp) ?_
                                        refine AllReady.cons (o := { dst := some 153, op := Op.buildSlice 44 1 #[(0, Operand.tmp 152)], type := 44, pos := "ref.go:263", after := #[{ on := 13, ground := Ground.data }], guard := none }) rfl (fun K hK => ?_) ?_
                                        · go_simp
                                          refine hK _ _ ?_
                                          clear hK K
                                          try simp only [Act.put, List.setIfInBounds_toArray, List.set_cons_zero, List.set_cons_succ]
                                          refine wpAny_ready (rs := [15]) (by kernel_rfl) (by simp) ?_
                                          refine AllReady.cons (o := { dst := some 154, op := Op.call { callee := Callee.builtin Builtin.append, args := #[Operand.tmp 139, Operand.tmp 153], argTypes := #[44, 44] }, type := 44, pos := "ref.go:263", after := #[{ on := 0, ground := Ground.data }, { on := 14, ground := Ground.data }, { on := 13, ground := Ground.chain }], guard := none }) rfl (fun K hK => ?_) ?_
                                          · refine oper_of_list (by rintro ⟨_, _, h⟩; exact h) ?_
                                            refine print_append_num (w0 := wq13) W.heap.size rfl (.tmp 139) (.tmp 153) 44 2 .i64 8 rfl Try.underlying44 dl_info (by decide) (.slice (some ⟨bk, 0, none⟩) l.length cl) l (wrap64 (y + wrap64 (least + x))) rfl rfl HJ.out.ho (Below.refl _ _) HJ.out.base (by have := HLL.out; have := HM.out; omega) ?_
                                            intro v2 w2 ho2 hb2 hg2 hat2
                                            have HO5 := Aside0.mk ho2
                                            have HP5 := Aside0.mk (HJ.out.after hg2 hb2 HNE.out)
                                            have HN5 := Aside0.mk (show v2.ownBlock ≠ some gx from own_still HJ.out.hx hat2 HNE.out)
                                            clear ho2 hb2 hg2 hat2
                                            show K _ _
                                            refine hK _ _ ?_
                                            clear hK K
                                            try simp only [Act.put, List.setIfInBounds_toArray, List.set_cons_zero, List.set_cons_succ]
                                            refine wpAny_ready (rs := [16]) (by kernel_rfl) (by simp) ?_
                                            refine AllReady.cons (o := { dst := some 11, op := Op.assign (Operand.tmp 154), type := 44, pos := "ref.go:263", after := #[{ on := 15, ground := Ground.data }, { on := 15, ground := Ground.chain }, { on := 0, ground := Ground.phase }, { on := 1, ground := Ground.phase }, { on := 2, ground := Ground.phase }, { on := 3, ground := Ground.phase }, { on := 4, ground := Ground.phase }, { on := 5, ground := Ground.phase }, { on := 6, ground := Ground.phase }, { on := 7, ground := Ground.phase }, { on := 8, ground := Ground.phase }, { on := 9, ground := Ground.phase }, { on := 10, ground := Ground.phase }, { on := 11, ground := Ground.phase }, { on := 12, ground := Ground.phase }, { on := 13, ground := Ground.phase }, { on := 14, ground := Ground.phase }, { on := 15, ground := Ground.phase }], guard := none }) rfl (fun K hK => ?_) ?_
                                            · go_simp
                                              refine hK _ _ ?_
                                              clear hK K
                                              try simp only [Act.put, List.setIfInBounds_toArray, List.set_cons_zero, List.set_cons_succ]
                                              refine wpAny_done (by kernel_rfl) ?_ _
                                              go_wp2
                                              go_roundw
                                              case rel => exact ⟨j + 1, l ++ [wrap64 (y + wrap64 (least + x))], by go_num, Hj.out, HLF2, ⟨HP5.out.1⟩, ⟨HP5.out.2.1⟩, ⟨HP5.out.2.2⟩, HO5, HN5, ⟨by have := HLM.out; simp; omega⟩, ⟨fun z hz => (List.mem_append.1 hz).elim (HLI.out z) (fun h => by rw [List.mem_singleton.1 h]; exact D13.wrap_in _)⟩⟩
                                              case measure => exact meas_up Hj.out
                                            exact AllReady.nil
                                          exact AllReady.nil
                                        exact AllReady.nil
                                      exact AllReady.nil
                                    exact AllReady.nil
                                  exact AllReady.nil
                                refine AllReady.cons (o := { dst := some 150, op := Op.load 2 (Operand.tmp 149), type := 2, pos := "ref.go:263", after := #[{ on := 10, ground := Ground.data }], guard := none }) rfl (fun K hK => ?_) ?_
                                · have c2 : w3.cell? ⟨gx, j, none⟩ = some (.int .i64 x) := HJ.out.one HXX.out
                                  go_simp
                                  clear c2
                                  refine hK _ _ ?_
                                  clear hK K
                                  try simp only [Act.put, List.setIfInBounds_toArray, List.set_cons_zero, List.set_cons_succ]
                                  refine wpAny_ready (rs := [6, 12]) (by kernel_rfl) (by simp) ?_
                                  refine AllReady.cons (o := { dst := some 145, op := Op.load 2 (Operand.tmp 144), type := 2, pos := "ref.go:263", after := #[{ on := 5, ground := Ground.data }], guard := none }) rfl (fun K hK => ?_) ?_
                                  · have c1 : w3.cell? ⟨bk, l.length - 1, none⟩ = some (.int .i64 y) := (HJ.out.last HL1.out).trans (by rw [HY.out])
                                    go_simp
                                    clear c1
                                    refine hK _ _ ?_
                                    clear hK K
                                    try simp only [Act.put, List.setIfInBounds_toArray, List.set_cons_zero, List.set_cons_succ]
                                    refine wpAny_ready (rs := [12]) (by kernel_rfl) (by simp) ?_
                                    refine AllReady.cons (o := { dst := some 151, op := Op.call { callee := Callee.value (Operand.func 59), args := #[Operand.tmp 146, Operand.tmp 150], argTypes := #[2, 2] }, type := 2, pos := "ref.go:263", after := #[{ on := 7, ground := Ground.data }, { on := 11, ground := Ground.data }], guard := none }) rfl (fun K hK => ?_) ?_
                                    · go_simp
                                      go_at_call 59
                                      refine (HADD.out least x _ HLE.out HXI2.out).mono ?_
                                      rintro e wq12 ⟨rfl, hq⟩
                                      replace HJ := Aside0.mk (HJ.out.drawn0 hq)
                                      clear hq
                                      refine hK _ _ ?_
                                      clear hK K
                                      try simp only [Act.put, List.setIfInBounds_toArray, List.set_cons_zero, List.set_cons_succ]
                                      refine wpAny_ready (rs := [13]) (by kernel_rfl) (by simp) ?_
                                      refine AllReady.cons (o := { dst := some 152, op := Op.call { callee := Callee.value (Operand.func 59), args := #[Operand.tmp 145, Operand.tmp 151], argTypes := #[2, 2] }, type := 2, pos := "ref.go:263", after := #[{ on := 6, ground := Ground.data }, { on := 12, ground := Ground.data }, { on := 12, ground := Ground.chain }], guard := none }) rfl (fun K hK => ?_) ?_
                                      · go_simp
                                        go_at_call 59
                                        refine (HADD.out y (wrap64 (least + x)) _ HYI.out (D13.wrap_in _)).mono ?_
                                        rintro e wq13 ⟨rfl, hq⟩
                                        replace HJ := Aside0.mk (HJ.out.drawn0 hq)
                                        clear hq
                                        refine hK _ _ ?_
                                        clear hK K
                                        try simp only [Act.put, List.setIfInBounds_toArray, List.set_cons_zero, List.set_cons_succ]
                                        refine wpAny_ready (rs := [14]) (by kernel_rfl) (by simp) ?_
                                        refine AllReady.cons (o := { dst := some 153, op := Op.buildSlice 44 1 #[(0, Operand.tmp 152)], type := 44, pos := "ref.go:263", after := #[{ on := 13, ground := Ground.data }], guard := none }) rfl (fun K hK => ?_) ?_
                                        · go_simp
                                          refine hK _ _ ?_
                                          clear hK K
                                          try simp only [Act.put, List.setIfInBounds_toArray, List.set_cons_zero, List.set_cons_succ]
                                          refine wpAny_ready (rs := [15]) (by kernel_rfl) (by simp) ?_
                                          refine AllReady.cons (o := { dst := some 154, op := Op.call { callee := Callee.builtin Builtin.append, args := #[Operand.tmp 139, Operand.tmp 153], argTypes := #[44, 44] }, type := 44, pos := "ref.go:263", after := #[{ on := 0, ground := Ground.data }, { on := 14, ground := Ground.data }, { on := 13, ground := Ground.chain }], guard := none }) rfl (fun K hK => ?_) ?_
                                          · refine oper_of_list (by rintro ⟨_, _, h⟩; exact h) ?_
                                            refine print_append_num (w0 := wq13) W.heap.size rfl (.tmp 139) (.tmp 153) 44 2 .i64 8 rfl Try.underlying44 dl_info (by decide) (.slice (some ⟨bk, 0, none⟩) l.length cl) l (wrap64 (y + wrap64 (least + x))) rfl rfl HJ.out.ho (Below.refl _ _) HJ.out.base (by have := HLL.out; have := HM.out; omega) ?_
                                            intro v2 w2 ho2 hb2 hg2 hat2
                                            have HO5 := Aside0.mk ho2
                                            have HP5 := Aside0.mk (HJ.out.after hg2 hb2 HNE.out)
                                            have HN5 := Aside0.mk (show v2.ownBlock ≠ some gx from own_still HJ.out.hx hat2 HNE.out)
                                            clear ho2 hb2 hg2 hat2
                                            show K _ _
                                            refine hK _ _ ?_
                                            clear hK K
                                            try simp only [Act.put, List.setIfInBounds_toArray, List.set_cons_zero, List.set_cons_succ]
                                            refine wpAny_ready (rs := [16]) (by kernel_rfl) (by simp) ?_
                                            refine AllReady.cons (o := { dst := some 11, op := Op.assign (Operand.tmp 154), type := 44, pos := "ref.go:263", after := #[{ on := 15, ground := Ground.data }, { on := 15, ground := Ground.chain }, { on := 0, ground := Ground.phase }, { on := 1, ground := Ground.phase }, { on := 2, ground := Ground.phase }, { on := 3, ground := Ground.phase }, { on := 4, ground := Ground.phase }, { on := 5, ground := Ground.phase }, { on := 6, ground := Ground.phase }, { on := 7, ground := Ground.phase }, { on := 8, ground := Ground.phase }, { on := 9, ground := Ground.phase }, { on := 10, ground := Ground.phase }, { on := 11, ground := Ground.phase }, { on := 12, ground := Ground.phase }, { on := 13, ground := Ground.phase }, { on := 14, ground := Ground.phase }, { on := 15, ground := Ground.phase }], guard := none }) rfl (fun K hK => ?_) ?_
                                            · go_simp
                                              refine hK _ _ ?_
                                              clear hK K
                                              try simp only [Act.put, List.setIfInBounds_toArray, List.set_cons_zero, List.set_cons_succ]
                                              refine wpAny_done (by kernel_rfl) ?_ _
                                              go_wp2
                                              go_roundw
                                              case rel => exact ⟨j + 1, l ++ [wrap64 (y + wrap64 (least + x))], by go_num, Hj.out, HLF2, ⟨HP5.out.1⟩, ⟨HP5.out.2.1⟩, ⟨HP5.out.2.2⟩, HO5, HN5, ⟨by have := HLM.out; simp; omega⟩, ⟨fun z hz => (List.mem_append.1 hz).elim (HLI.out z) (fun h => by rw [List.mem_singleton.1 h]; exact D13.wrap_in _)⟩⟩
                                              case measure => exact meas_up Hj.out
                                            exact AllReady.nil
                                          exact AllReady.nil
                                        exact AllReady.nil
                                      exact AllReady.nil
                                    exact AllReady.nil
                                  refine AllReady.cons (o := { dst := some 151, op := Op.call { callee := Callee.value (Operand.func 59), args := #[Operand.tmp 146, Operand.tmp 150], argTypes := #[2, 2] }, type := 2, pos := "ref.go:263", after := #[{ on := 7, ground := Ground.data }, { on := 11, ground := Ground.data }], guard := none }) rfl (fun K hK => ?_) ?_
                                  · go_simp
                                    go_at_call 59
                                    refine (HADD.out least x _ HLE.out HXI2.out).mono ?_
                                    rintro e wq12 ⟨rfl, hq⟩
                                    replace HJ := Aside0.mk (HJ.out.drawn0 hq)
                                    clear hq
                                    refine hK _ _ ?_
                                    clear hK K
                                    try simp only [Act.put, List.setIfInBounds_toArray, List.set_cons_zero, List.set_cons_succ]
                                    refine wpAny_ready (rs := [6]) (by kernel_rfl) (by simp) ?_
                                    refine AllReady.cons (o := { dst := some 145, op := Op.load 2 (Operand.tmp 144), type := 2, pos := "ref.go:263", after := #[{ on := 5, ground := Ground.data }], guard := none }) rfl (fun K hK => ?_) ?_
                                    · have c1 : wq12.cell? ⟨bk, l.length - 1, none⟩ = some (.int .i64 y) := (HJ.out.last HL1.out).trans (by rw [HY.out])
                                      go_simp
                                      clear c1
                                      refine hK _ _ ?_
                                      clear hK K
                                      try simp only [Act.put, List.setIfInBounds_toArray, List.set_cons_zero, List.set_cons_succ]
                                      refine wpAny_ready (rs := [13]) (by kernel_rfl) (by simp) ?_
                                      refine AllReady.cons (o := { dst := some 152, op := Op.call { callee := Callee.value (Operand.func 59), args := #[Operand.tmp 145, Operand.tmp 151], argTypes := #[2, 2] }, type := 2, pos := "ref.go:263", after := #[{ on := 6, ground := Ground.data }, { on := 12, ground := Ground.data }, { on := 12, ground := Ground.chain }], guard := none }) rfl (fun K hK => ?_) ?_
                                      · go_simp
                                        go_at_call 59
                                        refine (HADD.out y (wrap64 (least + x)) _ HYI.out (D13.wrap_in _)).mono ?_
                                        rintro e wq13 ⟨rfl, hq⟩
                                        replace HJ := Aside0.mk (HJ.out.drawn0 hq)
                                        clear hq
                                        refine hK _ _ ?_
                                        clear hK K
                                        try simp only [Act.put, List.setIfInBounds_toArray, List.set_cons_zero, List.set_cons_succ]
                                        refine wpAny_ready (rs := [14]) (by kernel_rfl) (by simp) ?_
                                        refine AllReady.cons (o := { dst := some 153, op := Op.buildSlice 44 1 #[(0, Operand.tmp 152)], type := 44, pos := "ref.go:263", after := #[{ on := 13, ground := Ground.data }], guard := none }) rfl (fun K hK => ?_) ?_
                                        · go_simp
                                          refine hK _ _ ?_
                                          clear hK K
                                          try simp only [Act.put, List.setIfInBounds_toArray, List.set_cons_zero, List.set_cons_succ]
                                          refine wpAny_ready (rs := [15]) (by kernel_rfl) (by simp) ?_
                                          refine AllReady.cons (o := { dst := some 154, op := Op.call { callee := Callee.builtin Builtin.append, args := #[Operand.tmp 139, Operand.tmp 153], argTypes := #[44, 44] }, type := 44, pos := "ref.go:263", after := #[{ on := 0, ground := Ground.data }, { on := 14, ground := Ground.data }, { on := 13, ground := Ground.chain }], guard := none }) rfl (fun K hK => ?_) ?_
                                          · refine oper_of_list (by rintro ⟨_, _, h⟩; exact h) ?_
                                            refine print_append_num (w0 := wq13) W.heap.size rfl (.tmp 139) (.tmp 153) 44 2 .i64 8 rfl Try.underlying44 dl_info (by decide) (.slice (some ⟨bk, 0, none⟩) l.length cl) l (wrap64 (y + wrap64 (least + x))) rfl rfl HJ.out.ho (Below.refl _ _) HJ.out.base (by have := HLL.out; have := HM.out; omega) ?_
                                            intro v2 w2 ho2 hb2 hg2 hat2
                                            have HO5 := Aside0.mk ho2
                                            have HP5 := Aside0.mk (HJ.out.after hg2 hb2 HNE.out)
                                            have HN5 := Aside0.mk (show v2.ownBlock ≠ some gx from own_still HJ.out.hx hat2 HNE.out)
                                            clear ho2 hb2 hg2 hat2
                                            show K _ _
                                            refine hK _ _ ?_
                                            clear hK K
                                            try simp only [Act.put, List.setIfInBounds_toArray, List.set_cons_zero, List.set_cons_succ]
                                            refine wpAny_ready (rs := [16]) (by kernel_rfl) (by simp) ?_
                                            refine AllReady.cons (o := { dst := some 11, op := Op.assign (Operand.tmp 154), type := 44, pos := "ref.go:263", after := #[{ on := 15, ground := Ground.data }, { on := 15, ground := Ground.chain }, { on := 0, ground := Ground.phase }, { on := 1, ground := Ground.phase }, { on := 2, ground := Ground.phase }, { on := 3, ground := Ground.phase }, { on := 4, ground := Ground.phase }, { on := 5, ground := Ground.phase }, { on := 6, ground := Ground.phase }, { on := 7, ground := Ground.phase }, { on := 8, ground := Ground.phase }, { on := 9, ground := Ground.phase }, { on := 10, ground := Ground.phase }, { on := 11, ground := Ground.phase }, { on := 12, ground := Ground.phase }, { on := 13, ground := Ground.phase }, { on := 14, ground := Ground.phase }, { on := 15, ground := Ground.phase }], guard := none }) rfl (fun K hK => ?_) ?_
                                            · go_simp
                                              refine hK _ _ ?_
                                              clear hK K
                                              try simp only [Act.put, List.setIfInBounds_toArray, List.set_cons_zero, List.set_cons_succ]
                                              refine wpAny_done (by kernel_rfl) ?_ _
                                              go_wp2
                                              go_roundw
                                              case rel => exact ⟨j + 1, l ++ [wrap64 (y + wrap64 (least + x))], by go_num, Hj.out, HLF2, ⟨HP5.out.1⟩, ⟨HP5.out.2.1⟩, ⟨HP5.out.2.2⟩, HO5, HN5, ⟨by have := HLM.out; simp; omega⟩, ⟨fun z hz => (List.mem_append.1 hz).elim (HLI.out z) (fun h => by rw [List.mem_singleton.1 h]; exact D13.wrap_in _)⟩⟩
                                              case measure => exact meas_up Hj.out
                                            exact AllReady.nil
                                          exact AllReady.nil
                                        exact AllReady.nil
                                      exact AllReady.nil
                                    exact AllReady.nil
                                  exact AllReady.nil
                                exact AllReady.nil
                              · have q6 : decide ((l.length : Int) < many) = false := decide_eq_false hlm
                                have HE := Aside0.mk (HOUT.out (by
                                  have h := HLF.out
                                  rw [← h]
                                  cases hd : xs.drop j with
                                  | nil => rfl
                                  | cons a t => rw [addS, if_pos (by have := HLL.out; omega)]))
                                clear hj hlm HOUT
                                go_wp2
                                go_roundw
                                case rel =>
                                  obtain ⟨p', l', st', e1, h⟩ := HE.out
                                  exact ⟨p', l', st', by rw [← e1], h⟩
                                case measure => exact meas_up Hp4.out
                            · obtain rfl : j = 32 := by omega
                              have HE := Aside0.mk (HOUT.out (by
                                have h := HLF.out
                                rw [List.drop_of_length_le (by have := HXL.out; omega)] at h
                                exact h))
                              clear hj HOUT
                              go_wp2
                              go_roundw
                              case rel =>
                                obtain ⟨p', l', st', e1, h⟩ := HE.out
                                exact ⟨p', l', st', by rw [← e1], h⟩
                              case measure => exact meas_up Hp4.out
                        · have q2 : decide (fr + 32 * (p : Int) < many) = false := decide_eq_false hpm
                          have HE := Aside0.mk (HOUT.out (.inr (by omega)))
                          clear hp hpm HOUT
                          go_wp2
                          go_roundw
                          case rel =>
                            obtain ⟨k', fr', l', st', e1, h⟩ := HE.out
                            exact ⟨k', fr', l', st', by rw [← e1], h⟩
                          case measure => exact HMEAS.out
                      · obtain rfl : p = 4 := by omega
                        have HE := Aside0.mk (HOUT.out (.inl rfl))
                        clear hp HOUT
                        go_wp2
                        go_roundw
                        case rel =>
                          obtain ⟨k', fr', l', st', e1, h⟩ := HE.out
                          exact ⟨k', fr', l', st', by rw [← e1], h⟩
                        case measure => exact HMEAS.out
            · have qc : decide (fr < many) = false := decide_eq_false hc
              have R1 := Aside0.mk (show Rs res (fun lb => res = .ok (l, lb)) st from HR.out.imp fun r h => by
                cases k with
                | zero => exact h
                | succ k => rw [loopS, if_neg hc] at h; exact h)
              clear HR hf1 hf2
              go_wp2
              go_meet
              case rel => exact ⟨l, st, HI, R1, HO, HLI, ⟨by have := HLL.out; have := HM.out; omega⟩⟩
        case rest =>
          clear HR0 HI HO HLL HLI
          obtain ⟨l, st, HI, HR, HO, HLI, HLL⟩ := hcut
          cases st with
          | error x =>
            obtain ⟨at_, wrong, ⟨A1, c1, hb, hg, hC⟩, ⟨rfl, hx⟩, hB⟩ := HI.out
            have k2 := (blk_cell hb 2).trans (show _ = some (.int .i64 wrong) from rfl)
            have q0 : (wrong != 0) = true := by simpa using hx
            have HBf := Aside0.mk hB
            clear hb hg hC hx hB HI
            go_wp2
            go_quiet (fail)
            go_wp2
            go_ret3
            exact rb_err HRES.out HR.out.1 (pw_below_drewN HBf.out _)
          | ok r =>
            obtain ⟨at_, wrong, hI, hst, hB⟩ := id HI.out
            obtain ⟨rfl, a, rfl, ha, hra⟩ := stR_ok hst
            obtain ⟨A1, c1, hb, hg, hCb⟩ := hI
            have k1 := (blk_cell hb 1).trans (show _ = some (.int .i64 a) from rfl)
            have k2 := (blk_cell hb 2).trans (show _ = some (.int .i64 0) from rfl)
            have HBG := Aside0.mk (begin_ok HRES.out ((show res = .ok (l, r) from HR.out).trans (by rw [hra])) ha)
            have hR := Kd.R_of_own (enc := Value.int .i64) (h1 := fun _ => rfl) (ok := fun _ => True) HO.out (fun _ _ => trivial)
            obtain ⟨Al, cl, rfl, hcl, hCl⟩ := Kd.R_reads hR
            have HWR := Aside0.mk (marquetryref13_Write.calls 71000 Al cl l (D13.listB l) 0 wc hCl hcl (D13.ref_write (by have := HLL.out; omega) HLI.out HLL.out))
            have HK1 := Aside0.mk k1
            have HA := Aside0.mk ha
            have HBf := Aside0.mk hB
            have HCC := Aside0.mk hc
            clear hb hg hCb hst hB hra hR hCl hcl k1 ha
            go_wp2_with fail
            refine HWR.out.mono ?_
            rintro e W1 ⟨v1, rfl, hR1, hb1⟩
            obtain ⟨A3, c3, rfl, hc3, hC3⟩ := Kd.R_reads hR1
            have HC3 := Aside0.mk hC3
            have k3 : ∀ w', Below W1.heap.size W1 w' → w'.cell? ⟨g, 1, none⟩ = some (.int .i64 a) := fun w' h => below_cell (hb1.trans (h.mono hb1.size)) HK1.out (World.block_lt_of_cell? _ _ HK1.out)
            have HO1 := Aside0.mk (own_belowW HO.out hb1)
            have HB1 := Aside0.mk (HBf.out.trans (hb1.mono HBf.out.size))
            clear k2 hR1 hC3 hb1 hc3 HWR HK1 HO HBf
            go_wp2_with fail
            obtain ⟨i0, hi0, _, hsz, _⟩ := info_parts info5
            obtain ⟨htake, hTd, hT1⟩ := print_take_of (P := Try.prog) (Value.int .u8) 0 25 5 .i64 Try.underlying25 hi0 hsz A0 c0 B a (by omega) (by have := HA.out; omega) hc
            rw [Int.toNat_natCast] at htake hTd hT1
            have hK0 : ∀ w', Below W1.heap.size W1 w' → Kd.C (Kd.int .u8) w' A0 (B.take a).length (B.take a) := fun w' h => Kd.C_of_reads (h1 := fun _ => rfl) (hTd _ (Kd.reads_of_C (Kd.C_below HC.out (HB1.out.trans (h.mono HB1.out.size)))))
            obtain ⟨bt, hbt⟩ : ∃ bt, bt = B.take a := ⟨_, rfl⟩
            obtain ⟨lb, hlb⟩ : ∃ lb, lb = D13.listB l := ⟨_, rfl⟩
            rw [← hbt] at htake hTd hT1 hK0 HBG
            rw [← hlb] at HBG HC3 ⊢
            have cv1 : ∀ w', Below W1.heap.size W1 w' → (convert 25 9 (.slice A3 lb.length c3)).run Try.prog w' = .ok (.string (strOfNums lb)) w' := fun w' h => Kd.C_string Try.underlying25 Try.underlying5 Try.underlying9 (Kd.C_below HC3.out h)
            have cv2 : ∀ w', Below W1.heap.size W1 w' → (convert 25 9 (.slice A0 bt.length c0)).run Try.prog w' = .ok (.string (strOfNums bt)) w' := fun w' h => Kd.C_string Try.underlying25 Try.underlying5 Try.underlying9 (hK0 w' h)
            have hBr : Below W1.heap.size W1 W1 := Below.refl _ _
            clear hTd hT1 hK0 hbt hlb hi0 hsz hc
            have HK3 := Aside0.mk k3
            by_cases hs : (strOfNums lb).toList = (strOfNums bt).toList
            · have HEQ := Aside0.mk (show beginR B = (l, (a : Int), 0) from by rw [HBG.out, if_pos hs])
              have q7 : (!(strOfNums lb).toList == (strOfNums bt).toList) = false := by simp [hs]
              clear HBG hs
              go_region_held3 (fun w' => Below W1.heap.size W1 w') (first | (repeat (first | exact hBr | apply below_drew1 | apply pw_below_drewN))) (fail)
              have k1 : W1.drew.cell? ⟨g, 1, none⟩ = some (.int .i64 a) := HK3.out _ (below_drew1 (Below.refl _ _))
              clear k3 cv1 cv2 htake hBr
              go_wp2
              refine wp_namedW fun W2 hW2 => ?_
              have k2 : W2.cell? ⟨g, 1, none⟩ = some (.int .i64 a) := by rw [hW2]; exact k1
              have HO2 := Aside0.mk (show W2.ownsRow W.heap.size 2 1 (.slice Al l.length cl) l.length (nums .i64 l) from by rw [hW2]; exact HO1.out.drew)
              have HB2 := Aside0.mk (show Below W.heap.size W W2 from by rw [hW2]; exact below_drew1 HB1.out)
              clear hW2 k1
              go_quiet (fail)
              go_wp2
              go_ret3
              rw [HEQ.out]
              exact ⟨_, rfl, by repeat (first | exact HO2.out | apply pw_own_drewN | apply World.ownsRow.drew), by repeat (first | exact HB2.out | apply pw_below_drewN | apply below_drew1)⟩
            · have HEQ := Aside0.mk (show beginR B = ([], 0, 8) from by rw [HBG.out, if_neg hs])
              have q7 : (!(strOfNums lb).toList == (strOfNums bt).toList) = true := by simp [hs]
              clear HBG hs
              go_region_held3 (fun w' => Below W1.heap.size W1 w') (first | (repeat (first | exact hBr | apply below_drew1 | apply pw_below_drewN))) (fail)
              clear k3 cv1 cv2 htake hBr
              go_wp2
              go_ret3
              rw [HEQ.out]
              exact ⟨_, rfl, World.ownsRow_nil _ _ _ _, by repeat (first | exact HB1.out | apply pw_below_drewN | apply below_drew1)⟩
end Go.Proofs.Ytcdephhplmcmjaa.X
end

section
namespace Go.Proofs.Ytcdephhplmcmjaa.X
open Go.RowKit Go.Proofs.YtcdephhplmcmjaaW.PrintWords Go.Proofs.YtcdephhplmcmjaaW.PrintLast Go.Proofs.YtcdephhplmcmjaaW.PrintMore
attribute [local go_sem] max2_int min2_int max_two min_two max_three min_three max_four min_four
set_option linter.unusedVariables false
set_option linter.unusedSimpArgs false
def marquetryref13_Begin.f (l0 : List Int) : Option (List Int × Int × Int) := if u8All l0 = true ∧ l0.length ≤ 6000 then some (D13.beginR l0) else none
theorem marquetryref13_Begin.calls (A0 : Option Addr) (c0 : Nat) (l0 : List Int) (r1 : List Int) (r2 r3 : Int) (w : World) (hr0 : Kd.C (Kd.int .u8) w A0 l0.length l0) (hc0 : l0.length ≤ c0) (h : marquetryref13_Begin.f l0 = some (r1, r2, r3)) :
    Calls Try.prog 39 #[.slice A0 l0.length c0] w fun e w' => ∃ v0_ : Value, e = .returned (.tuple #[v0_, .int .i64 r2, .int .i64 r3]) ∧ Kd.R (Kd.int .i64) 2 w' w.heap.size (fun _ => True) v0_ r1 ∧ Below w.heap.size w w' := by
  unfold marquetryref13_Begin.f at h
  by_cases hu : u8All l0 = true ∧ l0.length ≤ 6000
  · rw [if_pos hu] at h
    have h := Option.some.inj h
    refine (rb_main A0 c0 l0 w hr0 hc0 hu.2 (u8All_iff.1 hu.1)).mono ?_
    rintro e w' ⟨v, rfl, ho, hb⟩
    rw [h] at ho ⊢
    exact ⟨v, rfl, Kd.R_of_own (enc := Value.int .i64) (h1 := fun _ => rfl) ho (fun _ _ => trivial), hb⟩
  · rw [if_neg hu] at h; cases h
end Go.Proofs.Ytcdephhplmcmjaa.X
end

section
namespace Go.Proofs.Ytcdephhplmcmjaa.X
open Go.RowKit Go.Proofs.YtcdephhplmcmjaaW.PrintWords Go.Proofs.YtcdephhplmcmjaaW.PrintLast Go.Proofs.YtcdephhplmcmjaaW.PrintMore
attribute [local go_sem] max2_int min2_int max_two min_two max_three min_three max_four min_four
set_option linter.unusedVariables false
set_option linter.unusedSimpArgs false
def marquetryref14_Common.l0 : Nat → ByteArray → ByteArray → Int → Option (Int)
 | 0, _, _, _ => none
 | k + 1, x0, x1, x5 => if x5 < (x0.size : Int) then (if x5 < (x1.size : Int) then (if 0 ≤ x5 then (if (bt x0 x5) = (bt x1 x5) then (marquetryref14_Common.l0 k x0 x1 (wrap64 (x5 + 1))) else (some x5)) else (none)) else (some x5)) else (some x5)
def marquetryref14_Common.f (k : Nat) (a0 : ByteArray) (a1 : ByteArray) : Option (Int) := marquetryref14_Common.l0 k a0 a1 0
theorem marquetryref14_Common.mono_l : ∀ k, (∀ y0 y1 y2, LeO (marquetryref14_Common.l0 k y0 y1 y2) (marquetryref14_Common.l0 (k + 1) y0 y1 y2))
 | 0 => fun _ _ _ r h => by simp [marquetryref14_Common.l0] at h
 | k + 1 => by
  have ih0 := marquetryref14_Common.mono_l k
  ·intro y0 y1 y2
   unfold marquetryref14_Common.l0
   repeat' first
   | (with_reducible exact ih0 _ _ _)
   | (with_reducible exact LeO.refl _)
   | (with_reducible exact LeO.none _)
   | (with_reducible refine LeO.ite ?_ ?_)
   | (with_reducible refine LeO.bind ?_ (fun _ => ?_))
   | exact ih0 _ _ _
   | exact LeO.none _
   | refine LeO.ite ?_ ?_
   | refine LeO.bind ?_ (fun _ => ?_)
theorem marquetryref14_Common.mono : ∀ a0 a1 k, LeO (marquetryref14_Common.f k a0 a1) (marquetryref14_Common.f (k + 1) a0 a1) := by
 intro a0 a1 k
 have ih0 := marquetryref14_Common.mono_l k
 unfold marquetryref14_Common.f
 repeat' first
   | (with_reducible exact ih0 _ _ _)
   | (with_reducible exact LeO.refl _)
   | (with_reducible exact LeO.none _)
   | (with_reducible refine LeO.ite ?_ ?_)
   | (with_reducible refine LeO.bind ?_ (fun _ => ?_))
   | exact ih0 _ _ _
   | exact LeO.none _
   | refine LeO.ite ?_ ?_
   | refine LeO.bind ?_ (fun _ => ?_)
set_option maxHeartbeats 8000000 in
set_option maxRecDepth 100000 in
theorem marquetryref14_Common.calls (k : Nat) (a0 : ByteArray) (a1 : ByteArray) (r : Int) (w : World) (h : marquetryref14_Common.f k a0 a1 = some r) :
  Calls Try.prog 25 #[.string a0, .string a1] w fun e w' => e = .returned (.int .i64 r) ∧ Drawn0 w w' := by
 have H : (marquetryref14_Common.l0 k a0 a1 0) = some r := h
 clear h
 have H' := Aside0.mk H
 clear H
 go_enter Try.func25, Try.ntmps25
 go_wp2
 repeat (go_quiet (fail); try go_wp2)
 go_loopg [5] k (fun kq v5 w' => ∃ (x5_1 : Int), v5 = .int .i64 x5_1 ∧ Aside0 (marquetryref14_Common.l0 kq a0 a1 x5_1 = some r) ∧ Aside0 (kq ≤ k) ∧ Drawn0 w w')
 case atStart => exact ⟨(0), (by first | rfl | (simp; done) | (simp [*]; done)), H', ⟨Nat.le_refl _⟩, by repeat (first | exact Drawn0.refl _ | apply Drawn0.step)⟩
 case round =>
  clear H'
  try clear c2
  try clear p2
  obtain ⟨x5_1, rfl, HA, HK1, ⟨m1, rfl⟩⟩ := hrel
  cases gk with
  | zero => exact absurd HA.out (by simp [marquetryref14_Common.l0])
  | succ k1 =>
   have H := HA.out
   clear HA
   simp only [marquetryref14_Common.l0] at H
   by_cases c3 : x5_1 < (a0.size : Int)
   ·rw [if_pos c3] at H
    have c3b0 : decide (x5_1 < (a0.size : Int)) = true := decide_eq_true c3
    clear c3
    by_cases c4 : x5_1 < (a1.size : Int)
    ·rw [if_pos c4] at H
     have c4b0 : decide (x5_1 < (a1.size : Int)) = true := decide_eq_true c4
     clear c4
     by_cases c5 : 0 ≤ x5_1
     ·rw [if_pos c5] at H
      have c5b0 : decide (0 ≤ x5_1) = true := decide_eq_true c5
      clear c5
      by_cases c8 : (bt a0 x5_1) = (bt a1 x5_1)
      ·rw [if_pos c8] at H
       have c8b0 : ((bt a0 x5_1) == (bt a1 x5_1)) = true := beq_iff_eq.mpr c8
       have c8b1 : ((bt a0 x5_1) != (bt a1 x5_1)) = false := bne_eq_false_iff_eq.mpr c8
       clear c8
       have H' := Aside0.mk H
       clear H
       have p6 : 0 ≤ (x5_1 : Int) := of_decide_eq_true (by first | (with_reducible assumption) | assumption)
       have q6 : x5_1 < (a0.size : Int) := of_decide_eq_true (by first | (with_reducible assumption) | assumption)
       have hx6 := bt_at a0 x5_1
       replace p6 := eq_true p6
       replace q6 := eq_true q6
       have p7 : 0 ≤ (x5_1 : Int) := of_decide_eq_true (by first | (with_reducible assumption) | assumption)
       have q7 : x5_1 < (a1.size : Int) := of_decide_eq_true (by first | (with_reducible assumption) | assumption)
       have hx7 := bt_at a1 x5_1
       replace p7 := eq_true p7
       replace q7 := eq_true q7
       go_wp2
       repeat (go_quiet (fail); try go_wp2)
       go_roundg k1
       case measure => have := HK1.out; omega
       case rel => exact ⟨(wrap64 (x5_1 + 1)), (by first | rfl | (simp; done) | (simp [*]; done)), H', ⟨by have := HK1.out; omega⟩, by repeat (first | exact Drawn0.refl _ | apply Drawn0.step)⟩
      ·rw [if_neg c8] at H
       have c8b0 : ((bt a0 x5_1) == (bt a1 x5_1)) = false := beq_eq_false_iff_ne.mpr c8
       have c8b1 : ((bt a0 x5_1) != (bt a1 x5_1)) = true := bne_iff_ne.mpr c8
       obtain rfl := Option.some.inj H
       have p6 : 0 ≤ (x5_1 : Int) := of_decide_eq_true (by first | (with_reducible assumption) | assumption)
       have q6 : x5_1 < (a0.size : Int) := of_decide_eq_true (by first | (with_reducible assumption) | assumption)
       have hx6 := bt_at a0 x5_1
       replace p6 := eq_true p6
       replace q6 := eq_true q6
       have p7 : 0 ≤ (x5_1 : Int) := of_decide_eq_true (by first | (with_reducible assumption) | assumption)
       have q7 : x5_1 < (a1.size : Int) := of_decide_eq_true (by first | (with_reducible assumption) | assumption)
       have hx7 := bt_at a1 x5_1
       replace p7 := eq_true p7
       replace q7 := eq_true q7
       go_wp2
       repeat (go_quiet (fail); try go_wp2)
       go_ret
       exact ⟨by first | rfl | (simp; done) | (simp [*]; done), by repeat (first | exact Drawn0.refl _ | apply Drawn0.step)⟩
     ·rw [if_neg c5] at H
      exact absurd H (by simp)
    ·rw [if_neg c4] at H
     have c4b0 : decide (x5_1 < (a1.size : Int)) = false := decide_eq_false c4
     clear c4
     obtain rfl := Option.some.inj H
     go_wp2
     repeat (go_quiet (fail); try go_wp2)
     go_ret
     exact ⟨by first | rfl | (simp; done) | (simp [*]; done), by repeat (first | exact Drawn0.refl _ | apply Drawn0.step)⟩
   ·rw [if_neg c3] at H
    have c3b0 : decide (x5_1 < (a0.size : Int)) = false := decide_eq_false c3
    clear c3
    obtain rfl := Option.some.inj H
    go_wp2
    repeat (go_quiet (fail); try go_wp2)
    go_ret
    exact ⟨by first | rfl | (simp; done) | (simp [*]; done), by repeat (first | exact Drawn0.refl _ | apply Drawn0.step)⟩
end Go.Proofs.Ytcdephhplmcmjaa.X
end

section
namespace Go.Proofs.Ytcdephhplmcmjaa.X
open Go.RowKit Go.Proofs.YtcdephhplmcmjaaW.PrintWords Go.Proofs.YtcdephhplmcmjaaW.PrintLast Go.Proofs.YtcdephhplmcmjaaW.PrintMore
set_option linter.unusedVariables false
set_option linter.unusedSimpArgs false
theorem ba_eq {a b : ByteArray} (h : a.data.toList = b.data.toList) : a = b := by
  cases a; cases b
  simp only at h
  rw [Array.toList_inj.1 h]
theorem str_bytes (s : ByteArray) : strOfNums (bytesOf s) = s := by
  apply ba_eq
  unfold strOfNums bytesOf
  simp only [List.map_map]
  rw [List.map_congr_left (g := id) (fun b _ => by show UInt8.ofNat ((b.toNat : Int)).toNat = b; rw [Int.toNat_natCast]; exact UInt8.ofNat_toNat)]
  simp
theorem bytes_str {b : List Int} (hu : ∀ x ∈ b, 0 ≤ x ∧ x ≤ 255) : bytesOf (strOfNums b) = b := by
  unfold strOfNums bytesOf
  simp only [List.map_map]
  rw [List.map_congr_left (g := id) (fun x hx => by
    have := hu x hx
    show ((UInt8.ofNat x.toNat).toNat : Int) = x
    rw [UInt8.toNat_ofNat', Nat.mod_eq_of_lt (by omega)]; omega)]
  simp
theorem bytesOf_range (s : ByteArray) : ∀ x ∈ bytesOf s, 0 ≤ x ∧ x ≤ 255 := by
  intro x hx
  obtain ⟨b, _, rfl⟩ := List.mem_map.1 hx
  have := b.toNat_lt
  omega
theorem flatZ_range (l : List ByteArray) : ∀ x ∈ flatZ l, 0 ≤ x ∧ x ≤ 255 := by
  intro x hx
  obtain ⟨s, _, hs⟩ := List.mem_flatMap.1 hx
  exact bytesOf_range s x hs
theorem toList_eq {a b : ByteArray} : a.toList = b.toList ↔ a = b := by
  constructor
  · intro h
    rw [ByteArray.toList_eq, ByteArray.toList_eq] at h
    exact ba_eq h
  · intro h; rw [h]
theorem str_eq {a b : List Int} (ha : ∀ x ∈ a, 0 ≤ x ∧ x ≤ 255) (hb : ∀ x ∈ b, 0 ≤ x ∧ x ≤ 255) : (strOfNums a).toList = (strOfNums b).toList ↔ a = b := by
  rw [toList_eq]
  constructor
  · intro h
    rw [← bytes_str ha, h, bytes_str hb]
  · intro h; rw [h]
theorem sumT_lens : ∀ (l : List ByteArray) (s : Int), 0 ≤ s → s + totZ l ≤ 1048576 → sumT (lensZ l) s = .ok (s + totZ l)
  | [], s, _, _ => by simp [lensZ, sumT, totZ]
  | a :: l, s, h0, h => by
    rw [totZ] at h
    have ih := sumT_lens l (s + (a.size : Int)) (by omega) (by omega)
    show sumT ((a.size : Int) :: lensZ l) s = _
    rw [sumT, if_pos (by omega), if_pos (by omega), ih, totZ]
    congr 1
    omega
theorem cutT_back : ∀ (l : List ByteArray) (tl : List Int), cutT (lensZ l) (flatZ l ++ tl) = (l, tl)
  | [], tl => rfl
  | a :: l, tl => by
    have ih := cutT_back l tl
    have hz : ((a.size : Int)).toNat = (bytesOf a).length := by rw [bytesOf_length]; rfl
    show cutT ((a.size : Int) :: lensZ l) (flatZ (a :: l) ++ tl) = _
    have he : flatZ (a :: l) ++ tl = bytesOf a ++ (flatZ l ++ tl) := by unfold flatZ; rw [List.flatMap_cons, List.append_assoc]
    rw [cutT, he, hz, List.take_left, List.drop_left, ih, str_bytes]
theorem numsT_back {L : List Int} (hx : ∀ x ∈ L, D13.inI x) (hl : L.length ≤ 65536) (tl : List Int) : numsT (L.length : Int) (D13.listB L ++ tl) = .ok (L, tl) := by
  unfold numsT
  rw [D13.begin_back hx hl tl]
  simp
theorem textsT_back {l : List ByteArray} (h : longZ l = false) (tl : List Int) : textsT (l.length : Int) ((lengthsZ l).1 ++ tl) = .ok (l, tl) := by
  obtain ⟨ht, hl⟩ := longZ_no h
  have hi := lensZ_inI (l := l) (by omega)
  have hn := numsT_back hi (by rw [lensZ_length]; exact hl) (flatZ l ++ tl)
  rw [lensZ_length] at hn
  unfold textsT
  rw [lengthsZ_fine h, List.append_assoc, hn]
  simp only []
  rw [sumT_lens l 0 (by omega) (by omega)]
  simp only []
  rw [if_pos (by rw [List.length_append, flatZ_length]; omega), cutT_back]
end Go.Proofs.Ytcdephhplmcmjaa.X
end

section
namespace Go.Proofs.Ytcdephhplmcmjaa.X
open Go.RowKit Go.Proofs.YtcdephhplmcmjaaW.PrintWords Go.Proofs.YtcdephhplmcmjaaW.PrintLast Go.Proofs.YtcdephhplmcmjaaW.PrintMore
set_option linter.unusedVariables false
set_option linter.unusedSimpArgs false
theorem ex_front (s : ByteArray) (n : Nat) : (s.extract 0 n).data.toList = s.data.toList.take n := by
  rw [ByteArray.data_extract]; simp
theorem ex_back (s : ByteArray) (n : Nat) : (s.extract n s.size).data.toList = s.data.toList.drop n := by
  rw [ByteArray.data_extract]
  simp
  rw [List.take_of_length_le (by rw [List.length_drop, data_length]; omega)]
theorem comL_take : ∀ (a b : List UInt8), a.take (comL a b) = b.take (comL a b)
  | [], b => by simp [comL]
  | a :: as_, [] => by simp [comL]
  | a :: as_, b :: bs => by
    rw [comL]
    split
    · rename_i h
      rw [List.take_succ_cons, List.take_succ_cons, comL_take as_ bs, h]
    · simp
theorem com_join (a b : ByteArray) : a.extract 0 (comZ a b) ++ b.extract (comZ a b) b.size = b := by
  apply ba_eq
  rw [ByteArray.data_append, Array.toList_append, ex_front, ex_back]
  unfold comZ
  rw [comL_take, List.take_append_drop]
theorem preT_back : ∀ (l : List ByteArray) (last : ByteArray) (sum : Int), 0 ≤ sum → sum + (totZ l : Int) ≤ 1048576 → preT (firstsZ (pairsF last l)) (restsZ (pairsF last l)) last sum = .ok l
  | [], last, sum, _, _ => rfl
  | s :: l, last, sum, h0, h => by
    rw [totZ] at h
    have hc := comZ_le last s
    have hz : (s.extract (comZ last s) s.size).size = s.size - comZ last s := by rw [ByteArray.size_extract]; omega
    have ih := preT_back l s (sum + (s.size : Int)) (by omega) (by omega)
    show preT (((comZ last s : Nat) : Int) :: firstsZ (pairsF s l)) (s.extract (comZ last s) s.size :: restsZ (pairsF s l)) last sum = _
    rw [preT, if_pos ⟨by omega, by omega⟩, if_pos (by rw [hz]; omega), hz, show ((comZ last s : Nat) : Int).toNat = comZ last s from rfl, com_join, show sum + (((comZ last s : Nat) : Int) + ((s.size - comZ last s : Nat) : Int)) = sum + (s.size : Int) by omega, ih]
theorem firsts_in {l : List ByteArray} (h : longZ l = false) : ∀ x ∈ firstsZ (pairsZ l), D13.inI x := fun x hx => by
  obtain ⟨p, hp, rfl⟩ := List.mem_map.1 hx
  obtain ⟨h1, h2, h3⟩ := pairsF_rests l ⟨#[]⟩ p hp
  have := size_le_tot l _ h3
  have := (longZ_no h).1
  unfold D13.inI
  omega
theorem firsts_len (l : List ByteArray) : (firstsZ (pairsZ l)).length = l.length := by rw [firstsZ_length, pairsZ, pairsF_length]
theorem rests_len (l : List ByteArray) : (restsZ (pairsZ l)).length = l.length := by rw [restsZ, List.length_map, pairsZ, pairsF_length]
theorem prefT_back {l : List ByteArray} (h : longZ l = false) (tl : List Int) : prefT (l.length : Int) ((prefixesZ l).1 ++ tl) ((prefixesZ l).1 ++ tl) = .ok (l, tl) := by
  obtain ⟨ht, hl⟩ := longZ_no h
  have hn := numsT_back (firsts_in h) (by rw [firsts_len]; exact hl) ((lengthsZ (restsZ (pairsZ l))).1 ++ tl)
  have hx := textsT_back (rests_short h) tl
  have hp := preT_back l ⟨#[]⟩ 0 (by omega) (by omega)
  rw [firsts_len] at hn
  rw [rests_len] at hx
  obtain ⟨wh, hwh⟩ : ∃ wh, wh = (prefixesZ l).1 ++ tl := ⟨_, rfl⟩
  have he : wh = D13.listB (firstsZ (pairsZ l)) ++ ((lengthsZ (restsZ (pairsZ l))).1 ++ tl) := by rw [hwh, prefixesZ_fine h, List.append_assoc]
  have ht2 : wh.take (wh.length - tl.length) = (prefixesZ l).1 := by
    rw [hwh, List.length_append, Nat.add_sub_cancel, List.take_left]
  rw [← hwh]
  unfold prefT
  rw [show numsT (l.length : Int) wh = .ok (firstsZ (pairsZ l), (lengthsZ (restsZ (pairsZ l))).1 ++ tl) by rw [he]; exact hn]
  simp only []
  rw [hx]
  simp only []
  rw [show preT (firstsZ (pairsZ l)) (restsZ (pairsZ l)) ⟨#[]⟩ 0 = .ok l from hp]
  simp only []
  rw [ht2, if_pos rfl]
theorem lengthsZ_u8 (l : List ByteArray) : ∀ x ∈ (lengthsZ l).1, 0 ≤ x ∧ x ≤ 255 := by
  unfold lengthsZ
  split
  · intro x hx; cases hx
  · intro x hx
    rcases List.mem_append.1 hx with hx | hx
    · exact D13.listB_range _ x hx
    · exact flatZ_range _ x hx
theorem prefixesZ_u8 (l : List ByteArray) : ∀ x ∈ (prefixesZ l).1, 0 ≤ x ∧ x ≤ 255 := by
  unfold prefixesZ
  split
  · intro x hx; cases hx
  · intro x hx
    rcases List.mem_append.1 hx with hx | hx
    · exact D13.listB_range _ x hx
    · exact lengthsZ_u8 _ x hx
theorem lengthsZ_len {l : List ByteArray} (h : longZ l = false) : (lengthsZ l).1.length ≤ 2000000 := by
  obtain ⟨ht, hl⟩ := longZ_no h
  rw [lengthsZ_fine h, List.length_append, flatZ_length]
  have := D13.listB_short (lensZ_inI (l := l) (by omega)) (by rw [lensZ_length]; exact hl)
  omega
theorem prefixesZ_len {l : List ByteArray} (h : longZ l = false) : (prefixesZ l).1.length ≤ 3000000 := by
  obtain ⟨ht, hl⟩ := longZ_no h
  rw [prefixesZ_fine h, List.length_append]
  have := D13.listB_short (firsts_in h) (by rw [firsts_len]; exact hl)
  have := lengthsZ_len (rests_short h)
  omega
theorem same_s (l : List ByteArray) (hl : l.length ≤ 1000000000) : ∀ (d k i : Nat), i + d = l.length → d < k → marquetrylaw14_same.l0 k l l (i : Int) = some true
  | 0, k, i, h, hk => by
    obtain ⟨k, rfl⟩ : ∃ j, k = j + 1 := ⟨k - 1, by omega⟩
    rw [marquetrylaw14_same.l0, if_neg (by omega)]
  | d + 1, k, i, h, hk => by
    obtain ⟨k, rfl⟩ : ∃ j, k = j + 1 := ⟨k - 1, by omega⟩
    rw [marquetrylaw14_same.l0, if_pos (by omega), if_pos (by omega), if_pos (by omega), if_pos rfl, show wrap64 ((i : Int) + 1) = ((i + 1 : Nat) : Int) by rw [Bx.w64 (by omega) (by omega)]; omega]
    exact same_s l hl d k (i + 1) (by omega) (by omega)
theorem sameS {k : Nat} {l : List ByteArray} (hl : l.length ≤ 1000000000) (hk : l.length < k) : marquetrylaw14_same.f k l l = some true := by
  unfold marquetrylaw14_same.f
  rw [if_pos rfl]
  exact same_s l hl l.length k 0 (by omega) hk
theorem fLengths {l : List ByteArray} (h : longZ l = false) : strings_Lengths.f l = some (lengthsZ l) := by
  unfold strings_Lengths.f
  rw [if_pos (by have := (longZ_no h).2; omega)]
theorem fPrefixes {l : List ByteArray} (h : longZ l = false) : strings_Prefixes.f l = some (prefixesZ l) := by
  unfold strings_Prefixes.f
  rw [if_pos (by have := (longZ_no h).2; omega)]
theorem fReadLengths {b : List Int} (hu : ∀ x ∈ b, 0 ≤ x ∧ x ≤ 255) (hl : b.length ≤ 100000000) (count : Int) : strings_ReadLengths.f b count = some (readT count (textsT count b)) := by
  unfold strings_ReadLengths.f
  rw [if_pos ⟨u8All_iff.2 hu, by omega⟩]
theorem fReadPrefixes {b : List Int} (hu : ∀ x ∈ b, 0 ≤ x ∧ x ≤ 255) (hl : b.length ≤ 100000000) (count : Int) : strings_ReadPrefixes.f b count = some (readT count (prefT count b b)) := by
  unfold strings_ReadPrefixes.f
  rw [if_pos ⟨u8All_iff.2 hu, by omega⟩]
theorem readT_ok {count : Int} (h0 : 0 ≤ count) (h1 : count ≤ 65536) {l : List ByteArray} : readT count (.ok (l, [])) = (l, 0) := by
  unfold readT
  rw [if_neg (by omega)]
  rfl
theorem readT_more {count : Int} (h0 : 0 ≤ count) (h1 : count ≤ 65536) {l : List ByteArray} {x : Int} {r : List Int} : readT count (.ok (l, x :: r)) = ([], 7) := by
  unfold readT
  rw [if_neg (by omega)]
  exact if_neg (by simp)
theorem readT_err {count : Int} (h0 : 0 ≤ count) (h1 : count ≤ 65536) (x : Int) : readT count (.error x) = ([], x) := by
  unfold readT
  rw [if_neg (by omega)]
def S1 : List ByteArray := [⟨#[97, 98]⟩, ⟨#[99]⟩]
def S2 : List ByteArray := [⟨#[97, 98]⟩, ⟨#[97, 98, 99]⟩]
theorem S1_long : longZ S1 = false := by decide
theorem S2_long : longZ S2 = false := by decide
theorem list_21 : D13.listB [2, 1] = [128, 1, 4, 2, 4, 1, 0, 0, 0, 0] := by
  have e1 : allD [2, 1] = [[-1]] := by kernel_rfl
  have e2 : D13.blkB [-1] = D13.vb 1 ++ [0, 0, 0, 0] := by kernel_rfl
  unfold D13.listB
  rw [e1, List.flatMap_cons, e2, show D13.vb [(2 : Int), 1].length = [2] from D13.vb_small (by decide), show D13.vb (D13.zz (rd [2, 1] 0)).toNat = [4] from D13.vb_small (by decide), show D13.vb 1 = [1] from D13.vb_small (by decide)]
  rfl
theorem list_02 : (D13.listB [0, 2]).length = 10 := by
  have e1 : allD [0, 2] = [[2]] := by kernel_rfl
  have e2 : D13.blkB [2] = D13.vb 4 ++ [0, 0, 0, 0] := by kernel_rfl
  unfold D13.listB
  rw [e1, List.flatMap_cons, e2, show D13.vb [(0 : Int), 2].length = [2] from D13.vb_small (by decide), show D13.vb (D13.zz (rd [0, 2] 0)).toNat = [0] from D13.vb_small (by decide), show D13.vb 4 = [4] from D13.vb_small (by decide)]
  rfl
theorem S1_bytes : lengthsZ S1 = ([128, 1, 4, 2, 4, 1, 0, 0, 0, 0, 97, 98, 99], 0) := by
  rw [lengthsZ_fine S1_long, show lensZ S1 = [2, 1] from rfl, show flatZ S1 = [97, 98, 99] from rfl, list_21]
  rfl
theorem S2_rests : restsZ (pairsZ S2) = S1 := by
  show [(⟨#[97, 98]⟩ : ByteArray).extract 0 2, (⟨#[97, 98, 99]⟩ : ByteArray).extract 2 3] = S1
  rw [show (⟨#[97, 98]⟩ : ByteArray).extract 0 2 = ⟨#[97, 98]⟩ from ba_eq (by rw [ex_front]; rfl), show (⟨#[97, 98, 99]⟩ : ByteArray).extract 2 3 = ⟨#[99]⟩ from ba_eq ((ex_back ⟨#[97, 98, 99]⟩ 2).trans rfl)]
  rfl
theorem S2_bytes : (prefixesZ S2).1.length = 23 ∧ (prefixesZ S2).2 = 0 := by
  rw [prefixesZ_fine S2_long, S2_rests, show firstsZ (pairsZ S2) = [0, 2] from rfl, S1_bytes, List.length_append, list_02]
  exact ⟨rfl, rfl⟩
theorem works14 {k : Nat} (hk : 4 ≤ k) : marquetrylaw14_works.f k = some true := by
  have h1 := fLengths S1_long
  have h2 := fPrefixes S2_long
  have h3 := fReadLengths (lengthsZ_u8 S1) (by have := lengthsZ_len S1_long; omega) 2
  have h4 := fReadPrefixes (prefixesZ_u8 S2) (by have := prefixesZ_len S2_long; omega) 2
  have t1 := textsT_back S1_long []
  have t2 := prefT_back S2_long []
  rw [List.append_nil] at t1 t2
  rw [show ((S1.length : Nat) : Int) = 2 from rfl] at t1
  rw [show ((S2.length : Nat) : Int) = 2 from rfl] at t2
  rw [t1, readT_ok (by omega) (by omega)] at h3
  rw [t2, readT_ok (by omega) (by omega)] at h4
  have s1 := sameS (k := k) (l := S1) (by decide) (by show 2 < k; omega)
  have s2 := sameS (k := k) (l := S2) (by decide) (by show 2 < k; omega)
  have h5 := S2_bytes
  unfold marquetrylaw14_works.f marquetrylaw14_num.f
  change ((strings_Lengths.f S1).bind fun bt129 => _) = _
  rw [h1, Option.bind_some]
  change ((strings_Prefixes.f S2).bind fun bt136 => _) = _
  rw [h2, Option.bind_some, h3, Option.bind_some, h4, Option.bind_some]
  simp only []
  rw [S1_bytes, h5.2, h5.1]
  rw [if_pos (by rw [ByteArray.toList_eq]; rfl)]
  simp only [Option.bind_some]
  rw [if_pos (by kernel_rfl)]
  change ((marquetrylaw14_same.f k S1 S1).bind fun t155 => _) = _
  rw [s1, Option.bind_some, if_pos rfl]
  change ((marquetrylaw14_same.f k S2 S2).bind fun t159 => _) = _
  rw [s2, Option.bind_some, if_pos rfl]
  rfl
end Go.Proofs.Ytcdephhplmcmjaa.X
end

section
namespace Go.Proofs.Ytcdephhplmcmjaa.X
open Go.RowKit Go.Proofs.YtcdephhplmcmjaaW.PrintWords Go.Proofs.YtcdephhplmcmjaaW.PrintLast Go.Proofs.YtcdephhplmcmjaaW.PrintMore
set_option linter.unusedVariables false
set_option linter.unusedSimpArgs false
theorem numsT_inv {count : Int} {b L r : List Int} (hu : ∀ x ∈ b, 0 ≤ x ∧ x ≤ 255) (h : numsT count b = .ok (L, r)) : b = D13.listB L ++ r ∧ (L.length : Int) = count ∧ L.length ≤ 65536 ∧ ∀ x ∈ L, D13.inI x := by
  have h65 := (numsT_len h).2.1
  unfold numsT at h
  by_cases h0 : (D13.beginR b).2.2 = 0
  · rw [if_pos h0] at h
    by_cases h1 : ((D13.beginR b).1.length : Int) = count
    · rw [if_pos h1] at h
      obtain ⟨e1, e2⟩ := Prod.mk.inj (Except.ok.inj h)
      subst e1
      refine ⟨?_, h1, h65, ?_⟩
      · rw [← e2]
        unfold D13.beginR at h0 ⊢
        cases hr : listS b with
        | error x => rw [hr] at h0; have hx := listS_err b x hr; simp only [] at h0; omega
        | ok p =>
          obtain ⟨l, q⟩ := p
          rw [hr] at h0
          simp only [] at h0 ⊢
          by_cases he : (strOfNums (D13.listB l)).toList = (strOfNums (b.take (b.length - q.length))).toList
          · rw [if_pos he]
            have e := (str_eq (D13.listB_range l) (fun x hx => hu x (List.mem_of_mem_take hx))).1 he
            simp only []
            rw [e]
            exact (List.take_append_drop _ _).symm
          · rw [if_neg he] at h0; exact absurd h0 (by decide)
      · unfold D13.beginR
        cases hr : listS b with
        | error x => simp
        | ok p =>
          obtain ⟨l, q⟩ := p
          simp only []
          by_cases he : (strOfNums (D13.listB l)).toList = (strOfNums (b.take (b.length - q.length))).toList
          · rw [if_pos he]
            exact D13.listS_in hr
          · rw [if_neg he]; simp
    · rw [if_neg h1] at h; cases h
  · rw [if_neg h0] at h; cases h
theorem cutT_inv : ∀ (L r : List Int), (∀ n ∈ L, 0 ≤ n) → sumI L ≤ r.length → (∀ x ∈ r, 0 ≤ x ∧ x ≤ 255) → lensZ (cutT L r).1 = L ∧ flatZ (cutT L r).1 ++ (cutT L r).2 = r ∧ (totZ (cutT L r).1 : Int) = sumI L
  | [], r, _, _, _ => by rw [cutT]; exact ⟨rfl, rfl, rfl⟩
  | n :: L, r, h, hs, hu => by
    have h0 := h n List.mem_cons_self
    have hL := fun x hx => h x (List.mem_cons_of_mem n hx)
    have hnn := sumI_nn L hL
    rw [sumI] at hs ⊢
    have hlen : (r.take n.toNat).length = n.toNat := by rw [List.length_take]; omega
    obtain ⟨i1, i2, i3⟩ := cutT_inv L (r.drop n.toNat) hL (by rw [List.length_drop]; omega) (fun x hx => hu x (List.mem_of_mem_drop hx))
    have hsz : (strOfNums (r.take n.toNat)).size = n.toNat := by
      have := bytesOf_length (strOfNums (r.take n.toNat))
      rw [bytes_str (fun x hx => hu x (List.mem_of_mem_take hx)), hlen] at this
      omega
    rw [cutT]
    refine ⟨?_, ?_, ?_⟩
    · show ((strOfNums (r.take n.toNat)).size : Int) :: lensZ (cutT L (r.drop n.toNat)).1 = _
      rw [i1, hsz]
      congr 1
      omega
    · show bytesOf (strOfNums (r.take n.toNat)) ++ flatZ (cutT L (r.drop n.toNat)).1 ++ (cutT L (r.drop n.toNat)).2 = _
      rw [bytes_str (fun x hx => hu x (List.mem_of_mem_take hx)), List.append_assoc, i2]
      exact List.take_append_drop _ _
    · rw [totZ, hsz]
      omega
theorem again_l {count : Int} {b : List Int} {l : List ByteArray} (hu : ∀ x ∈ b, 0 ≤ x ∧ x ≤ 255) (h : textsT count b = .ok (l, [])) : lengthsZ l = (b, 0) ∧ (l.length : Int) = count ∧ longZ l = false := by
  have hlen := (textsT_len h).1
  unfold textsT at h
  cases hn : numsT count b with
  | error x => rw [hn] at h; cases h
  | ok p =>
    obtain ⟨L, r⟩ := p
    rw [hn] at h
    simp only [] at h
    obtain ⟨e1, e2, e3, e4⟩ := numsT_inv hu hn
    cases hs : sumT L 0 with
    | error x => rw [hs] at h; cases h
    | ok s =>
      rw [hs] at h
      simp only [] at h
      obtain ⟨s1, s2, s3⟩ := sumT_ok L 0 s hs (by decide) (by decide)
      by_cases hc : s ≤ (r.length : Int)
      · rw [if_pos hc] at h
        have h := Except.ok.inj h
        have hru : ∀ x ∈ r, 0 ≤ x ∧ x ≤ 255 := fun x hx => hu x (by rw [e1]; exact List.mem_append_right _ hx)
        obtain ⟨c1, c2, c3⟩ := cutT_inv L r s1 (by omega) hru
        rw [h] at c1 c2 c3
        simp only [List.append_nil] at c1 c2 c3
        have hlo : longZ l = false := by
          unfold longZ
          refine decide_eq_false ?_
          omega
        refine ⟨?_, hlen, hlo⟩
        rw [lengthsZ_fine hlo, c1, c2, ← e1]
      · rw [if_neg hc] at h; cases h
end Go.Proofs.Ytcdephhplmcmjaa.X
end

section
namespace Go.Proofs.Ytcdephhplmcmjaa.X
open Go.RowKit Go.Proofs.YtcdephhplmcmjaaW.PrintWords Go.Proofs.YtcdephhplmcmjaaW.PrintLast Go.Proofs.YtcdephhplmcmjaaW.PrintMore
set_option linter.unusedVariables false
set_option linter.unusedSimpArgs false
theorem works14_true (w : World) : Calls Try.prog 11 #[] w fun e w' => e = .returned (.bool true) ∧ Below w.heap.size w w' := marquetrylaw14_works.calls 4000 true w (works14 (by decide))
theorem num14_same (x : Int) (w : World) : Calls Try.prog 16 #[.int .i64 x] w fun e w' => e = .returned (.int .i64 x) ∧ Drawn0 w w' := marquetrylaw14_num.calls x x w rfl
theorem numsT_err {count : Int} {b : List Int} {x : Int} (h : numsT count b = .error x) : x ≠ 0 := by
  unfold numsT at h
  by_cases h0 : (D13.beginR b).2.2 = 0
  · rw [if_pos h0] at h
    by_cases h1 : ((D13.beginR b).1.length : Int) = count
    · rw [if_pos h1] at h; cases h
    · rw [if_neg h1] at h; cases h; decide
  · rw [if_neg h0] at h; cases h; exact h0
theorem sumT_err : ∀ (l : List Int) (s x : Int), sumT l s = .error x → x ≠ 0
  | [], s, x, h => by rw [sumT] at h; cases h
  | n :: l, s, x, h => by
    rw [sumT] at h
    by_cases h0 : 0 ≤ n
    · rw [if_pos h0] at h
      by_cases h1 : n ≤ 1048576 - s
      · rw [if_pos h1] at h; exact sumT_err l _ x h
      · rw [if_neg h1] at h; cases h; decide
    · rw [if_neg h0] at h; cases h; decide
theorem textsT_err {count : Int} {b : List Int} {x : Int} (h : textsT count b = .error x) : x ≠ 0 := by
  unfold textsT at h
  cases hn : numsT count b with
  | error y => rw [hn] at h; cases h; exact numsT_err hn
  | ok p =>
    obtain ⟨L, r⟩ := p
    rw [hn] at h
    simp only [] at h
    cases hs : sumT L 0 with
    | error y => rw [hs] at h; cases h; exact sumT_err _ _ _ hs
    | ok s =>
      rw [hs] at h
      simp only [] at h
      by_cases hc : s ≤ (r.length : Int)
      · rw [if_pos hc] at h; cases h
      · rw [if_neg hc] at h; cases h; decide
theorem readT_way (count : Int) (res : Except Int (List ByteArray × List Int)) (hne : ∀ x, res = .error x → x ≠ 0) : (∃ l, res = .ok (l, []) ∧ readT count res = (l, 0)) ∨ ∃ x, x ≠ 0 ∧ readT count res = ([], x) := by
  by_cases hc : count < 0 ∨ 65536 < count
  · refine .inr ⟨2, by decide, ?_⟩
    unfold readT
    rw [if_pos hc]
  · have h0 : 0 ≤ count := by omega
    have h1 : count ≤ 65536 := by omega
    cases res with
    | error x => exact .inr ⟨x, hne x rfl, readT_err h0 h1 x⟩
    | ok p =>
      obtain ⟨l, r⟩ := p
      cases r with
      | nil => exact .inl ⟨l, rfl, readT_ok h0 h1⟩
      | cons x r => exact .inr ⟨7, by decide, readT_more h0 h1⟩
end Go.Proofs.Ytcdephhplmcmjaa.X
end
