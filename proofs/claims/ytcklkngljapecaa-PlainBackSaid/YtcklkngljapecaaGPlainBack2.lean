/- PlainBack: texts of this seat in one (wip/merge.py): X22, X23, X25, X40, Ay, X26, X37, X3, X27. -/
import Derived.Test.YtcklkngljapecaaGPlainBack0
import Derived.Test.YtcklkngljapecaaGPlainBack1
import Derived.Deep.RegionHeld3
import Derived.Lib.AppendStr
section
namespace Go.Proofs.Ytcklkngljapecaa.X
open Go.RowKit Go.Proofs.YtcklkngljapecaaW.PrintWords Go.Proofs.YtcklkngljapecaaW.PrintLast Go.Proofs.YtcklkngljapecaaW.PrintMore
attribute [local go_sem] max2_int min2_int max_two min_two max_three min_three max_four min_four
set_option linter.unusedVariables false
set_option linter.unusedSimpArgs false
def sizeB (k s : Int) (x : S30) : Int := if k = 6 then wrap64 (4 + (x.f2.size : Int)) else if k = 7 then s else wide k
def sumS (k s : Int) : List S30 → Int → Int
 | [], n => n
 | x :: l, n => sumS k s l (wrap64 (n + sizeB k s x))
theorem wayR_W {W : World} {base : Nat} {k s : Int} {v : Value} (hk : k = 1 ∨ k = 4 ∨ k = 2 ∨ k = 5) (h : WayR W base k s v) : ∃ gb gk, v = .agg #[.func (.func 48) #[] #[.pointer (some ⟨gb, 0, none⟩)], .func (.func 49) #[] #[.pointer (some ⟨gb, 0, none⟩)], .func (.func 51) #[] #[.pointer (some ⟨gb, 0, none⟩), .pointer (some ⟨gk, 0, none⟩)]] ∧ Aside0 (W.heap[gb]? = some (.cells #[.int .i64 (wide k)] 3 (0, 0))) := by
 rcases h with ⟨_, gb, gk, h1, _, _, h4, _⟩ | ⟨h, _⟩ | ⟨h, _⟩
 ·exact ⟨gb, gk, h1, ⟨h4⟩⟩
 ·omega
 ·omega
theorem wayR_L {W : World} {base : Nat} {k s : Int} {v : Value} (hk : k = 6) (h : WayR W base k s v) : v = .agg #[.func (.func 53) #[] #[], .func (.func 54) #[] #[], .func (.func 55) #[] #[]] := by
 rcases h with ⟨h, _⟩ | ⟨_, h⟩ | ⟨h, _⟩
 ·omega
 ·exact h
 ·omega
theorem wayR_F {W : World} {base : Nat} {k s : Int} {v : Value} (hk : k = 7) (h : WayR W base k s v) : ∃ g, v = .agg #[.func (.func 57) #[] #[.pointer (some ⟨g, 0, none⟩)], .func (.func 58) #[] #[], .func (.func 59) #[] #[.pointer (some ⟨g, 0, none⟩)]] ∧ Aside0 (W.heap[g]? = some (.cells #[.int .i64 s] 3 (0, 0))) := by
 rcases h with ⟨h, _⟩ | ⟨h, _⟩ | ⟨_, g, h1, _, h4⟩
 ·omega
 ·omega
 ·exact ⟨g, h1, ⟨h4⟩⟩
theorem way_field (a b c : Value) (W : World) : (Instr.field 62 (.agg #[a, b, c]) 0).run Try.prog W = .ok a W := by kernel_rfl
theorem sz_whole (w : World) (g : Nat) (m : Int) (x : S30) (hg : w.heap[g]? = some (.cells #[.int .i64 m] 3 (0, 0))) :
  Calls Try.prog 48 #[.agg #[.int .i64 x.f0, .int .i64 x.f1, .string x.f2], .pointer (some ⟨g, 0, none⟩)] w fun e w' => e = .returned (.int .i64 m) ∧ Below w.heap.size w w' := by
 have hu30 := Try.underlying30
 have y0 := (blk_cell hg 0).trans rfl
 have hlt := blk_lt hg
 have hne : g ≠ w.heap.size := by omega
 have hne2 : w.heap.size ≠ g := by omega
 have HB0 := Aside0.mk (Below.refl w.heap.size w)
 go_enter Try.func48, Try.ntmps48
 go_wp2
 go_ret
 exact ⟨rfl, below_alloc HB0.out _⟩
theorem sz_fixed (w : World) (g : Nat) (m : Int) (x : S30) (hg : w.heap[g]? = some (.cells #[.int .i64 m] 3 (0, 0))) :
  Calls Try.prog 57 #[.agg #[.int .i64 x.f0, .int .i64 x.f1, .string x.f2], .pointer (some ⟨g, 0, none⟩)] w fun e w' => e = .returned (.int .i64 m) ∧ Below w.heap.size w w' := by
 have hu30 := Try.underlying30
 have y0 := (blk_cell hg 0).trans rfl
 have hlt := blk_lt hg
 have hne : g ≠ w.heap.size := by omega
 have hne2 : w.heap.size ≠ g := by omega
 have HB0 := Aside0.mk (Below.refl w.heap.size w)
 go_enter Try.func57, Try.ntmps57
 go_wp2
 go_ret
 exact ⟨rfl, below_alloc HB0.out _⟩
theorem sz_long (w : World) (x : S30) :
  Calls Try.prog 53 #[.agg #[.int .i64 x.f0, .int .i64 x.f1, .string x.f2]] w fun e w' => e = .returned (.int .i64 (wrap64 (4 + (x.f2.size : Int)))) ∧ Below w.heap.size w w' := by
 have hu30 := Try.underlying30
 have HB0 := Aside0.mk (Below.refl w.heap.size w)
 go_enter Try.func53, Try.ntmps53
 go_wp2
 go_ret
 exact ⟨rfl, below_alloc HB0.out _⟩
def SzJ (w : World) (r : Int) (a' : Act) (w' : World) : Prop := (∃ u0 u1 u2 u3 u4 u5 u6 u8 u9 u10 u11 u12 u13 u14 u15 u16 u17 u18 u19 u20 u21 u22 u23 u24 u25 u26 u27 u28 u29 u30 u31 u32 u33 u34 u35 u36 u37 u38 u39, a' = ⟨#[u0, u1, u2, u3, u4, u5, u6, .int .i64 r, u8, u9, u10, u11, u12, u13, u14, u15, u16, u17, u18, u19, u20, u21, u22, u23, u24, u25, u26, u27, u28, u29, u30, u31, u32, u33, u34, u35, u36, u37, u38, u39], []⟩) ∧ Below w.heap.size w w'
def plain_Size.f (k s : Int) (l : List S30) : Option (Int × Int) := (plain_asked.f k s l).bind fun e => if e ≠ 0 then some (0, e) else if k = 0 then some ((l.length + 7) / 8, 0) else if k = 1 ∨ k = 2 ∨ k = 4 ∨ k = 5 ∨ k = 6 ∨ k = 7 then some (if sumS k s l 0 > 1048576 then (0, 3) else (sumS k s l 0, 0)) else none
theorem asked_len {k s : Int} {l : List S30} (h : plain_asked.f k s l = some 0) : (l.length : Int) ≤ 65536 := by
 unfold plain_asked.f at h
 split at h
 ·split at h
  ·simp at h
  ·split at h
   ·simp at h
   ·omega
 ·cases h
theorem sz_drop {l : List S30} {i : Nat} (h : i < l.length) : l.drop i = rd_T30 l (i : Int) :: l.drop (i + 1) := by
 unfold rd_T30
 rw [List.drop_eq_getElem_cons h, show ((i : Int)).toNat = i from rfl, List.getD_eq_getElem?_getD, List.getElem?_eq_getElem h]; rfl
set_option maxRecDepth 100000 in
set_option maxHeartbeats 16000000 in
theorem sz_W (A1 : Option Addr) (c1 : Nat) (l1 : List S30) (k s : Int) (r1 r2 : Int) (w : World) (hr1 : Kd.C k30 w A1 l1.length l1) (hc1 : l1.length ≤ c1) (hl : (l1.length : Int) ≤ 65536) (hask : plain_asked.f k s l1 = some 0) (hkind : k = 1 ∨ k = 4 ∨ k = 2 ∨ k = 5) (h : (if sumS k s l1 0 > 1048576 then ((0 : Int), (3 : Int)) else (sumS k s l1 0, 0)) = (r1, r2)) :
  Calls Try.prog 15 #[.agg #[.int .i64 k, .int .i64 s], .slice A1 l1.length c1] w fun e w' => e = .returned (.tuple #[.int .i64 r1, .int .i64 r2]) ∧ Below w.heap.size w w' := by
 have hu25 := Try.underlying25
 have hu30 := Try.underlying30
 have hu62 := Try.underlying62
 have d0 : (k == 0) = false := beq_eq_false_iff_ne.2 (by rcases hkind with rfl | rfl | rfl | rfl <;> decide)
 have H := Aside0.mk h
 have HR := Aside0.mk hr1
 have HASK := Aside0.mk (fun W hr => plain_asked.calls k s A1 c1 l1 0 W hr hc1 hask)
 have HWAY := fun W => ways_calls k s (by rcases hkind with h | h | h | h <;> simp [h]) W
 have hfld := way_field
 have HB0 := Aside0.mk (Below.refl w.heap.size w)
 have HBX := Aside0.mk (blk_new w (Obj.cells #[Value.int IntKind.i64 k, Value.int IntKind.i64 s] 25))
 have HK := Aside0.mk hkind
 clear h hr1 hask hkind
 go_enter Try.func15, Try.ntmps15
 go_wp2
 refine wp_scope_jumps 0 (fun a' w' => r1 = 0 ∧ SzJ w r2 a' w') (fun _ _ => 0) rfl ?_ ?_
 rotate_left 1
 ·rintro a' w' ⟨rfl, ⟨u0, u1, u2, u3, u4, u5, u6, u8, u9, u10, u11, u12, u13, u14, u15, u16, u17, u18, u19, u20, u21, u22, u23, u24, u25, u26, u27, u28, u29, u30, u31, u32, u33, u34, u35, u36, u37, u38, u39, rfl⟩, hB⟩
  have HB := Aside0.mk hB
  clear hB
  go_wp2
  simp only [Exit.jump]
  go_ret2
  exact ⟨rfl, HB.out⟩
 ·go_wp2_with fail
  refine (HASK.out _ (Kd.C_alloc HR.out _)).mono ?_
  rintro e W1 ⟨rfl, hb⟩
  have HX1 := Aside0.mk (blk_below HBX.out hb)
  have HB1 := Aside0.mk (below_step (below_alloc HB0.out _) hb)
  have x0 := (blk_cell HX1.out 0).trans rfl
  have x1 := (blk_cell HX1.out 1).trans rfl
  have HR1 := Aside0.mk (Kd.C_below HR.out HB1.out)
  clear hb HASK HBX HR
  go_wp2
  go_loopw [6, 24] (fun v6 v24 wr => ∃ (i : Nat) (n : Int), v24 = .int .i64 (i : Int) ∧ v6 = .int .i64 n ∧ i ≤ l1.length ∧ Aside0 (sumS k s (l1.drop i) n = sumS k s l1 0) ∧ Aside0 (Below W1.heap.size W1 wr))
   (fun _ i _ => l1.length - (intOf i).toNat)
  case atStart => exact ⟨0, 0, rfl, rfl, Nat.zero_le _, ⟨rfl⟩, ⟨Below.refl _ _⟩⟩
  case round =>
   obtain ⟨i, n, rfl, rfl, hi, HA, HB⟩ := hrel
   by_cases ci : i < l1.length
   ·have q1 : decide ((i : Int) < (l1.length : Int)) = true := decide_eq_true (by omega)
    have hA := HA.out
    rw [sz_drop ci, sumS] at hA
    obtain ⟨ad, e1, hx0, hx1, hx2⟩ := at_T30 (Kd.C_below HR1.out HB.out) (i : Int) (by omega) (by omega)
    obtain ⟨x, hx⟩ : ∃ x, x = rd_T30 l1 (i : Int) := ⟨_, rfl⟩
    rw [← hx] at hx0 hx1 hx2 hA
    cases e1
    rw [show ((i : Int)).toNat = i from rfl] at hx0 hx1 hx2
    have p1 : (0 ≤ (i : Int)) = True := eq_true (by omega)
    have q2 : ((i : Int) < (l1.length : Int)) = True := eq_true (by omega)
    have HA2 := Aside0.mk hA
    have hB := HB.out
    have hT : ∀ W, Below W1.heap.size W1 W → W.cell? ⟨w.heap.size, 0, none⟩ = some (.int .i64 k) ∧ W.cell? ⟨w.heap.size, 1, none⟩ = some (.int .i64 s) := fun W hW => ⟨(blk_cell (blk_below HX1.out hW) 0).trans rfl, (blk_cell (blk_below HX1.out hW) 1).trans rfl⟩
    clear hx hA HA x0 x1
    go_upto_region 8 with fail
    obtain ⟨W3, hW3, hz3, hb3⟩ : ∃ W3, W3 = wr.alloc (Obj.cells #[Value.int IntKind.i64 x.f0, Value.int IntKind.i64 x.f1, Value.string x.f2] 30) ∧ W3.heap[wr.heap.size]? = some (Obj.cells #[Value.int IntKind.i64 x.f0, Value.int IntKind.i64 x.f1, Value.string x.f2] 30) ∧ Below wr.heap.size wr W3 := ⟨_, rfl, blk_new _ _, below_alloc (Below.refl _ _) _⟩
    rw [← hW3]
    clear hW3
    have hB3 : Below W1.heap.size W1 W3 := below_then hB hB.size hb3
    have hD : ∀ W, Below W3.heap.size W3 W → W.cell? ⟨wr.heap.size, 0, none⟩ = some (.int .i64 x.f0) ∧ W.cell? ⟨wr.heap.size, 1, none⟩ = some (.int .i64 x.f1) ∧ W.cell? ⟨wr.heap.size, 2, none⟩ = some (.string x.f2) := fun W hW => ⟨(blk_cell (blk_below hz3 hW) 0).trans rfl, (blk_cell (blk_below hz3 hW) 1).trans rfl, (blk_cell (blk_below hz3 hW) 2).trans rfl⟩
    have hS : ∀ W, Below W3.heap.size W3 W → (W.cell? ⟨w.heap.size, 0, none⟩ = some (.int .i64 k) ∧ W.cell? ⟨w.heap.size, 1, none⟩ = some (.int .i64 s)) ∧ W.cell? ⟨wr.heap.size, 0, none⟩ = some (.int .i64 x.f0) ∧ W.cell? ⟨wr.heap.size, 1, none⟩ = some (.int .i64 x.f1) ∧ W.cell? ⟨wr.heap.size, 2, none⟩ = some (.string x.f2) := fun W hW => ⟨hT W (below_then hB3 hB3.size hW), hD W hW⟩
    clear hT hD hx0 hx1 hx2
    have hBr : Below W3.heap.size W3 W3 := Below.refl _ _
    go_region_held3 (fun w' => (w'.cell? ⟨w.heap.size, 0, none⟩ = some (.int .i64 k) ∧ w'.cell? ⟨w.heap.size, 1, none⟩ = some (.int .i64 s)) ∧ w'.cell? ⟨wr.heap.size, 0, none⟩ = some (.int .i64 x.f0) ∧ w'.cell? ⟨wr.heap.size, 1, none⟩ = some (.int .i64 x.f1) ∧ w'.cell? ⟨wr.heap.size, 2, none⟩ = some (.string x.f2)) ((refine hS _ ?_; repeat (first | exact hBr | exact hB4 | exact hB5 | apply below_drew1)))
     (first
      | (go_at_call 21; refine (HWAY _).mono ?_; rintro e W4 ⟨v, rfl, hw, hb⟩; have hB4 : Below W3.heap.size W3 W4 := below_step (show Below W3.heap.size W3 _ by repeat (first | exact hBr | apply below_drew1)) hb; obtain ⟨gb, gk, rfl, G1⟩ := wayR_W HK.out hw)
      | (go_at_call 48; refine (sz_whole _ gb (wide k) x G1.out).mono ?_; rintro e W5 ⟨rfl, hb⟩; have hB5 : Below W3.heap.size W3 W5 := below_step hB4 hb))
    all_goals go_wp2_with fail
    all_goals go_roundw
    case rel => exact ⟨i + 1, _, by go_num, rfl, by omega, ⟨by have h := HA2.out; unfold sizeB at h; rw [if_neg (by have := HK.out; omega), if_neg (by have := HK.out; omega)] at h; rw [i64_w]; exact h⟩, ⟨below_then hB3 hB3.size hB5⟩⟩
    case measure => simp [intOf]; omega
   ·have q1 : decide ((i : Int) < (l1.length : Int)) = false := decide_eq_false (by omega)
    have hA := HA.out
    rw [List.drop_eq_nil_of_le (by omega), sumS] at hA
    have hh := H.out
    rw [← hA] at hh
    clear hA
    by_cases cn : n > 1048576
    ·have q3 : decide (n > 1048576) = true := decide_eq_true cn
     rw [if_pos cn] at hh
     obtain ⟨rfl, rfl⟩ : (0 : Int) = r1 ∧ (3 : Int) = r2 := by simpa using hh
     go_wp2
     go_step3
     exact ⟨rfl, rfl, ⟨_, _, _, _, _, _, _, _, _, _, _, _, _, _, _, _, _, _, _, _, _, _, _, _, _, _, _, _, _, _, _, _, _, _, _, _, _, _, _, rfl⟩, below_step HB1.out HB.out⟩
    ·have q3 : decide (n > 1048576) = false := decide_eq_false cn
     rw [if_neg cn] at hh
     obtain ⟨rfl, rfl⟩ : n = r1 ∧ (0 : Int) = r2 := by simpa using hh
     go_wp2
     simp only [Exit.jump]
     go_ret2
     exact ⟨rfl, below_step HB1.out HB.out⟩
set_option maxRecDepth 100000 in
set_option maxHeartbeats 16000000 in
theorem sz_L (A1 : Option Addr) (c1 : Nat) (l1 : List S30) (k s : Int) (r1 r2 : Int) (w : World) (hr1 : Kd.C k30 w A1 l1.length l1) (hc1 : l1.length ≤ c1) (hl : (l1.length : Int) ≤ 65536) (hask : plain_asked.f k s l1 = some 0) (hkind : k = 6) (h : (if sumS k s l1 0 > 1048576 then ((0 : Int), (3 : Int)) else (sumS k s l1 0, 0)) = (r1, r2)) :
  Calls Try.prog 15 #[.agg #[.int .i64 k, .int .i64 s], .slice A1 l1.length c1] w fun e w' => e = .returned (.tuple #[.int .i64 r1, .int .i64 r2]) ∧ Below w.heap.size w w' := by
 have hu25 := Try.underlying25
 have hu30 := Try.underlying30
 have hu62 := Try.underlying62
 have d0 : (k == 0) = false := beq_eq_false_iff_ne.2 (by subst hkind; decide)
 have H := Aside0.mk h
 have HR := Aside0.mk hr1
 have HASK := Aside0.mk (fun W hr => plain_asked.calls k s A1 c1 l1 0 W hr hc1 hask)
 have HWAY := fun W => ways_calls k s (by simp [hkind]) W
 have hfld := way_field
 have HB0 := Aside0.mk (Below.refl w.heap.size w)
 have HBX := Aside0.mk (blk_new w (Obj.cells #[Value.int IntKind.i64 k, Value.int IntKind.i64 s] 25))
 have HK := Aside0.mk hkind
 clear h hr1 hask hkind
 go_enter Try.func15, Try.ntmps15
 go_wp2
 refine wp_scope_jumps 0 (fun a' w' => r1 = 0 ∧ SzJ w r2 a' w') (fun _ _ => 0) rfl ?_ ?_
 rotate_left 1
 ·rintro a' w' ⟨rfl, ⟨u0, u1, u2, u3, u4, u5, u6, u8, u9, u10, u11, u12, u13, u14, u15, u16, u17, u18, u19, u20, u21, u22, u23, u24, u25, u26, u27, u28, u29, u30, u31, u32, u33, u34, u35, u36, u37, u38, u39, rfl⟩, hB⟩
  have HB := Aside0.mk hB
  clear hB
  go_wp2
  simp only [Exit.jump]
  go_ret2
  exact ⟨rfl, HB.out⟩
 ·go_wp2_with fail
  refine (HASK.out _ (Kd.C_alloc HR.out _)).mono ?_
  rintro e W1 ⟨rfl, hb⟩
  have HX1 := Aside0.mk (blk_below HBX.out hb)
  have HB1 := Aside0.mk (below_step (below_alloc HB0.out _) hb)
  have x0 := (blk_cell HX1.out 0).trans rfl
  have x1 := (blk_cell HX1.out 1).trans rfl
  have HR1 := Aside0.mk (Kd.C_below HR.out HB1.out)
  clear hb HASK HBX HR
  go_wp2
  go_loopw [6, 24] (fun v6 v24 wr => ∃ (i : Nat) (n : Int), v24 = .int .i64 (i : Int) ∧ v6 = .int .i64 n ∧ i ≤ l1.length ∧ Aside0 (sumS k s (l1.drop i) n = sumS k s l1 0) ∧ Aside0 (Below W1.heap.size W1 wr))
   (fun _ i _ => l1.length - (intOf i).toNat)
  case atStart => exact ⟨0, 0, rfl, rfl, Nat.zero_le _, ⟨rfl⟩, ⟨Below.refl _ _⟩⟩
  case round =>
   obtain ⟨i, n, rfl, rfl, hi, HA, HB⟩ := hrel
   by_cases ci : i < l1.length
   ·have q1 : decide ((i : Int) < (l1.length : Int)) = true := decide_eq_true (by omega)
    have hA := HA.out
    rw [sz_drop ci, sumS] at hA
    obtain ⟨ad, e1, hx0, hx1, hx2⟩ := at_T30 (Kd.C_below HR1.out HB.out) (i : Int) (by omega) (by omega)
    obtain ⟨x, hx⟩ : ∃ x, x = rd_T30 l1 (i : Int) := ⟨_, rfl⟩
    rw [← hx] at hx0 hx1 hx2 hA
    cases e1
    rw [show ((i : Int)).toNat = i from rfl] at hx0 hx1 hx2
    have p1 : (0 ≤ (i : Int)) = True := eq_true (by omega)
    have q2 : ((i : Int) < (l1.length : Int)) = True := eq_true (by omega)
    have HA2 := Aside0.mk hA
    have hB := HB.out
    have hT : ∀ W, Below W1.heap.size W1 W → W.cell? ⟨w.heap.size, 0, none⟩ = some (.int .i64 k) ∧ W.cell? ⟨w.heap.size, 1, none⟩ = some (.int .i64 s) := fun W hW => ⟨(blk_cell (blk_below HX1.out hW) 0).trans rfl, (blk_cell (blk_below HX1.out hW) 1).trans rfl⟩
    clear hx hA HA x0 x1
    go_upto_region 8 with fail
    obtain ⟨W3, hW3, hz3, hb3⟩ : ∃ W3, W3 = wr.alloc (Obj.cells #[Value.int IntKind.i64 x.f0, Value.int IntKind.i64 x.f1, Value.string x.f2] 30) ∧ W3.heap[wr.heap.size]? = some (Obj.cells #[Value.int IntKind.i64 x.f0, Value.int IntKind.i64 x.f1, Value.string x.f2] 30) ∧ Below wr.heap.size wr W3 := ⟨_, rfl, blk_new _ _, below_alloc (Below.refl _ _) _⟩
    rw [← hW3]
    clear hW3
    have hB3 : Below W1.heap.size W1 W3 := below_then hB hB.size hb3
    have hD : ∀ W, Below W3.heap.size W3 W → W.cell? ⟨wr.heap.size, 0, none⟩ = some (.int .i64 x.f0) ∧ W.cell? ⟨wr.heap.size, 1, none⟩ = some (.int .i64 x.f1) ∧ W.cell? ⟨wr.heap.size, 2, none⟩ = some (.string x.f2) := fun W hW => ⟨(blk_cell (blk_below hz3 hW) 0).trans rfl, (blk_cell (blk_below hz3 hW) 1).trans rfl, (blk_cell (blk_below hz3 hW) 2).trans rfl⟩
    have hS : ∀ W, Below W3.heap.size W3 W → (W.cell? ⟨w.heap.size, 0, none⟩ = some (.int .i64 k) ∧ W.cell? ⟨w.heap.size, 1, none⟩ = some (.int .i64 s)) ∧ W.cell? ⟨wr.heap.size, 0, none⟩ = some (.int .i64 x.f0) ∧ W.cell? ⟨wr.heap.size, 1, none⟩ = some (.int .i64 x.f1) ∧ W.cell? ⟨wr.heap.size, 2, none⟩ = some (.string x.f2) := fun W hW => ⟨hT W (below_then hB3 hB3.size hW), hD W hW⟩
    clear hT hD hx0 hx1 hx2
    have hBr : Below W3.heap.size W3 W3 := Below.refl _ _
    go_region_held3 (fun w' => (w'.cell? ⟨w.heap.size, 0, none⟩ = some (.int .i64 k) ∧ w'.cell? ⟨w.heap.size, 1, none⟩ = some (.int .i64 s)) ∧ w'.cell? ⟨wr.heap.size, 0, none⟩ = some (.int .i64 x.f0) ∧ w'.cell? ⟨wr.heap.size, 1, none⟩ = some (.int .i64 x.f1) ∧ w'.cell? ⟨wr.heap.size, 2, none⟩ = some (.string x.f2)) ((refine hS _ ?_; repeat (first | exact hBr | exact hB4 | exact hB5 | apply below_drew1)))
     (first
      | (go_at_call 21; refine (HWAY _).mono ?_; rintro e W4 ⟨v, rfl, hw, hb⟩; have hB4 : Below W3.heap.size W3 W4 := below_step (show Below W3.heap.size W3 _ by repeat (first | exact hBr | apply below_drew1)) hb; obtain rfl := wayR_L HK.out hw)
      | (go_at_call 53; refine (sz_long _ x).mono ?_; rintro e W5 ⟨rfl, hb⟩; have hB5 : Below W3.heap.size W3 W5 := below_step hB4 hb))
    all_goals go_wp2_with fail
    all_goals go_roundw
    case rel => exact ⟨i + 1, _, by go_num, rfl, by omega, ⟨by have h := HA2.out; unfold sizeB at h; rw [if_pos HK.out] at h; rw [i64_w]; exact h⟩, ⟨below_then hB3 hB3.size hB5⟩⟩
    case measure => simp [intOf]; omega
   ·have q1 : decide ((i : Int) < (l1.length : Int)) = false := decide_eq_false (by omega)
    have hA := HA.out
    rw [List.drop_eq_nil_of_le (by omega), sumS] at hA
    have hh := H.out
    rw [← hA] at hh
    clear hA
    by_cases cn : n > 1048576
    ·have q3 : decide (n > 1048576) = true := decide_eq_true cn
     rw [if_pos cn] at hh
     obtain ⟨rfl, rfl⟩ : (0 : Int) = r1 ∧ (3 : Int) = r2 := by simpa using hh
     go_wp2
     go_step3
     exact ⟨rfl, rfl, ⟨_, _, _, _, _, _, _, _, _, _, _, _, _, _, _, _, _, _, _, _, _, _, _, _, _, _, _, _, _, _, _, _, _, _, _, _, _, _, _, rfl⟩, below_step HB1.out HB.out⟩
    ·have q3 : decide (n > 1048576) = false := decide_eq_false cn
     rw [if_neg cn] at hh
     obtain ⟨rfl, rfl⟩ : n = r1 ∧ (0 : Int) = r2 := by simpa using hh
     go_wp2
     simp only [Exit.jump]
     go_ret2
     exact ⟨rfl, below_step HB1.out HB.out⟩
set_option maxRecDepth 100000 in
set_option maxHeartbeats 16000000 in
theorem sz_F (A1 : Option Addr) (c1 : Nat) (l1 : List S30) (k s : Int) (r1 r2 : Int) (w : World) (hr1 : Kd.C k30 w A1 l1.length l1) (hc1 : l1.length ≤ c1) (hl : (l1.length : Int) ≤ 65536) (hask : plain_asked.f k s l1 = some 0) (hkind : k = 7) (h : (if sumS k s l1 0 > 1048576 then ((0 : Int), (3 : Int)) else (sumS k s l1 0, 0)) = (r1, r2)) :
  Calls Try.prog 15 #[.agg #[.int .i64 k, .int .i64 s], .slice A1 l1.length c1] w fun e w' => e = .returned (.tuple #[.int .i64 r1, .int .i64 r2]) ∧ Below w.heap.size w w' := by
 have hu25 := Try.underlying25
 have hu30 := Try.underlying30
 have hu62 := Try.underlying62
 have d0 : (k == 0) = false := beq_eq_false_iff_ne.2 (by subst hkind; decide)
 have H := Aside0.mk h
 have HR := Aside0.mk hr1
 have HASK := Aside0.mk (fun W hr => plain_asked.calls k s A1 c1 l1 0 W hr hc1 hask)
 have HWAY := fun W => ways_calls k s (by simp [hkind]) W
 have hfld := way_field
 have HB0 := Aside0.mk (Below.refl w.heap.size w)
 have HBX := Aside0.mk (blk_new w (Obj.cells #[Value.int IntKind.i64 k, Value.int IntKind.i64 s] 25))
 have HK := Aside0.mk hkind
 clear h hr1 hask hkind
 go_enter Try.func15, Try.ntmps15
 go_wp2
 refine wp_scope_jumps 0 (fun a' w' => r1 = 0 ∧ SzJ w r2 a' w') (fun _ _ => 0) rfl ?_ ?_
 rotate_left 1
 ·rintro a' w' ⟨rfl, ⟨u0, u1, u2, u3, u4, u5, u6, u8, u9, u10, u11, u12, u13, u14, u15, u16, u17, u18, u19, u20, u21, u22, u23, u24, u25, u26, u27, u28, u29, u30, u31, u32, u33, u34, u35, u36, u37, u38, u39, rfl⟩, hB⟩
  have HB := Aside0.mk hB
  clear hB
  go_wp2
  simp only [Exit.jump]
  go_ret2
  exact ⟨rfl, HB.out⟩
 ·go_wp2_with fail
  refine (HASK.out _ (Kd.C_alloc HR.out _)).mono ?_
  rintro e W1 ⟨rfl, hb⟩
  have HX1 := Aside0.mk (blk_below HBX.out hb)
  have HB1 := Aside0.mk (below_step (below_alloc HB0.out _) hb)
  have x0 := (blk_cell HX1.out 0).trans rfl
  have x1 := (blk_cell HX1.out 1).trans rfl
  have HR1 := Aside0.mk (Kd.C_below HR.out HB1.out)
  clear hb HASK HBX HR
  go_wp2
  go_loopw [6, 24] (fun v6 v24 wr => ∃ (i : Nat) (n : Int), v24 = .int .i64 (i : Int) ∧ v6 = .int .i64 n ∧ i ≤ l1.length ∧ Aside0 (sumS k s (l1.drop i) n = sumS k s l1 0) ∧ Aside0 (Below W1.heap.size W1 wr))
   (fun _ i _ => l1.length - (intOf i).toNat)
  case atStart => exact ⟨0, 0, rfl, rfl, Nat.zero_le _, ⟨rfl⟩, ⟨Below.refl _ _⟩⟩
  case round =>
   obtain ⟨i, n, rfl, rfl, hi, HA, HB⟩ := hrel
   by_cases ci : i < l1.length
   ·have q1 : decide ((i : Int) < (l1.length : Int)) = true := decide_eq_true (by omega)
    have hA := HA.out
    rw [sz_drop ci, sumS] at hA
    obtain ⟨ad, e1, hx0, hx1, hx2⟩ := at_T30 (Kd.C_below HR1.out HB.out) (i : Int) (by omega) (by omega)
    obtain ⟨x, hx⟩ : ∃ x, x = rd_T30 l1 (i : Int) := ⟨_, rfl⟩
    rw [← hx] at hx0 hx1 hx2 hA
    cases e1
    rw [show ((i : Int)).toNat = i from rfl] at hx0 hx1 hx2
    have p1 : (0 ≤ (i : Int)) = True := eq_true (by omega)
    have q2 : ((i : Int) < (l1.length : Int)) = True := eq_true (by omega)
    have HA2 := Aside0.mk hA
    have hB := HB.out
    have hT : ∀ W, Below W1.heap.size W1 W → W.cell? ⟨w.heap.size, 0, none⟩ = some (.int .i64 k) ∧ W.cell? ⟨w.heap.size, 1, none⟩ = some (.int .i64 s) := fun W hW => ⟨(blk_cell (blk_below HX1.out hW) 0).trans rfl, (blk_cell (blk_below HX1.out hW) 1).trans rfl⟩
    clear hx hA HA x0 x1
    go_upto_region 8 with fail
    obtain ⟨W3, hW3, hz3, hb3⟩ : ∃ W3, W3 = wr.alloc (Obj.cells #[Value.int IntKind.i64 x.f0, Value.int IntKind.i64 x.f1, Value.string x.f2] 30) ∧ W3.heap[wr.heap.size]? = some (Obj.cells #[Value.int IntKind.i64 x.f0, Value.int IntKind.i64 x.f1, Value.string x.f2] 30) ∧ Below wr.heap.size wr W3 := ⟨_, rfl, blk_new _ _, below_alloc (Below.refl _ _) _⟩
    rw [← hW3]
    clear hW3
    have hB3 : Below W1.heap.size W1 W3 := below_then hB hB.size hb3
    have hD : ∀ W, Below W3.heap.size W3 W → W.cell? ⟨wr.heap.size, 0, none⟩ = some (.int .i64 x.f0) ∧ W.cell? ⟨wr.heap.size, 1, none⟩ = some (.int .i64 x.f1) ∧ W.cell? ⟨wr.heap.size, 2, none⟩ = some (.string x.f2) := fun W hW => ⟨(blk_cell (blk_below hz3 hW) 0).trans rfl, (blk_cell (blk_below hz3 hW) 1).trans rfl, (blk_cell (blk_below hz3 hW) 2).trans rfl⟩
    have hS : ∀ W, Below W3.heap.size W3 W → (W.cell? ⟨w.heap.size, 0, none⟩ = some (.int .i64 k) ∧ W.cell? ⟨w.heap.size, 1, none⟩ = some (.int .i64 s)) ∧ W.cell? ⟨wr.heap.size, 0, none⟩ = some (.int .i64 x.f0) ∧ W.cell? ⟨wr.heap.size, 1, none⟩ = some (.int .i64 x.f1) ∧ W.cell? ⟨wr.heap.size, 2, none⟩ = some (.string x.f2) := fun W hW => ⟨hT W (below_then hB3 hB3.size hW), hD W hW⟩
    clear hT hD hx0 hx1 hx2
    have hBr : Below W3.heap.size W3 W3 := Below.refl _ _
    go_region_held3 (fun w' => (w'.cell? ⟨w.heap.size, 0, none⟩ = some (.int .i64 k) ∧ w'.cell? ⟨w.heap.size, 1, none⟩ = some (.int .i64 s)) ∧ w'.cell? ⟨wr.heap.size, 0, none⟩ = some (.int .i64 x.f0) ∧ w'.cell? ⟨wr.heap.size, 1, none⟩ = some (.int .i64 x.f1) ∧ w'.cell? ⟨wr.heap.size, 2, none⟩ = some (.string x.f2)) ((refine hS _ ?_; repeat (first | exact hBr | exact hB4 | exact hB5 | apply below_drew1)))
     (first
      | (go_at_call 21; refine (HWAY _).mono ?_; rintro e W4 ⟨v, rfl, hw, hb⟩; have hB4 : Below W3.heap.size W3 W4 := below_step (show Below W3.heap.size W3 _ by repeat (first | exact hBr | apply below_drew1)) hb; obtain ⟨g, rfl, G1⟩ := wayR_F HK.out hw)
      | (go_at_call 57; refine (sz_fixed _ g s x G1.out).mono ?_; rintro e W5 ⟨rfl, hb⟩; have hB5 : Below W3.heap.size W3 W5 := below_step hB4 hb))
    all_goals go_wp2_with fail
    all_goals go_roundw
    case rel => exact ⟨i + 1, _, by go_num, rfl, by omega, ⟨by have h := HA2.out; unfold sizeB at h; rw [if_neg (by have := HK.out; omega), if_pos HK.out] at h; rw [i64_w]; exact h⟩, ⟨below_then hB3 hB3.size hB5⟩⟩
    case measure => simp [intOf]; omega
   ·have q1 : decide ((i : Int) < (l1.length : Int)) = false := decide_eq_false (by omega)
    have hA := HA.out
    rw [List.drop_eq_nil_of_le (by omega), sumS] at hA
    have hh := H.out
    rw [← hA] at hh
    clear hA
    by_cases cn : n > 1048576
    ·have q3 : decide (n > 1048576) = true := decide_eq_true cn
     rw [if_pos cn] at hh
     obtain ⟨rfl, rfl⟩ : (0 : Int) = r1 ∧ (3 : Int) = r2 := by simpa using hh
     go_wp2
     go_step3
     exact ⟨rfl, rfl, ⟨_, _, _, _, _, _, _, _, _, _, _, _, _, _, _, _, _, _, _, _, _, _, _, _, _, _, _, _, _, _, _, _, _, _, _, _, _, _, _, rfl⟩, below_step HB1.out HB.out⟩
    ·have q3 : decide (n > 1048576) = false := decide_eq_false cn
     rw [if_neg cn] at hh
     obtain ⟨rfl, rfl⟩ : n = r1 ∧ (0 : Int) = r2 := by simpa using hh
     go_wp2
     simp only [Exit.jump]
     go_ret2
     exact ⟨rfl, below_step HB1.out HB.out⟩
set_option maxRecDepth 100000 in
set_option maxHeartbeats 8000000 in
theorem plain_Size.calls (a0_0 a0_1 : Int) (A1 : Option Addr) (c1 : Nat) (l1 : List S30) (r1 r2 : Int) (w : World) (hr1 : Kd.C k30 w A1 l1.length l1) (hc1 : l1.length ≤ c1) (h : plain_Size.f a0_0 a0_1 l1 = some (r1, r2)) :
  Calls Try.prog 15 #[.agg #[.int .i64 a0_0, .int .i64 a0_1], .slice A1 l1.length c1] w fun e w' => e = .returned (.tuple #[.int .i64 r1, .int .i64 r2]) ∧ Below w.heap.size w w' := by
 unfold plain_Size.f at h
 obtain ⟨e, hask, h⟩ := Option.bind_eq_some_iff.1 h
 have hu25 := Try.underlying25
 have HASK := Aside0.mk (fun W hr => plain_asked.calls a0_0 a0_1 A1 c1 l1 e W hr hc1 hask)
 have HB0 := Aside0.mk (Below.refl w.heap.size w)
 have HBX := Aside0.mk (blk_new w (Obj.cells #[Value.int IntKind.i64 a0_0, Value.int IntKind.i64 a0_1] 25))
 have HR := Aside0.mk hr1
 by_cases c1' : e = 0
 ·subst c1'
  have hlen := asked_len hask
  rw [if_neg (by simp)] at h
  by_cases c5 : a0_0 = 0
  ·subst c5
   rw [if_pos rfl] at h
   have e1 : wrap64 ((l1.length : Int) + 7) = (l1.length : Int) + 7 := by unfold wrap64; omega
   have e2 : Int.tdiv ((l1.length : Int) + 7) 8 = ((l1.length : Int) + 7) / 8 := Int.tdiv_eq_ediv_of_nonneg (by omega)
   have e3 : wrap64 (((l1.length : Int) + 7) / 8) = ((l1.length : Int) + 7) / 8 := by unfold wrap64; omega
   have HRR := Aside0.mk (show ((l1.length : Int) + 7) / 8 = r1 ∧ (0 : Int) = r2 by simpa using h)
   clear hr1 hask h
   go_enter Try.func15, Try.ntmps15
   go_wp2
   refine wp_scope_jumps 0 (fun a' w' => r1 = 0 ∧ SzJ w r2 a' w') (fun _ _ => 0) rfl ?_ ?_
   rotate_left 1
   ·rintro a' w' ⟨rfl, ⟨u0, u1, u2, u3, u4, u5, u6, u8, u9, u10, u11, u12, u13, u14, u15, u16, u17, u18, u19, u20, u21, u22, u23, u24, u25, u26, u27, u28, u29, u30, u31, u32, u33, u34, u35, u36, u37, u38, u39, rfl⟩, hB⟩
    have HB := Aside0.mk hB
    clear hB
    go_wp2
    simp only [Exit.jump]
    go_ret2
    exact ⟨rfl, HB.out⟩
   ·go_wp2_with fail
    refine (HASK.out _ (Kd.C_alloc HR.out _)).mono ?_
    rintro e W1 ⟨rfl, hb⟩
    have HX1 := Aside0.mk (blk_below HBX.out hb)
    have HB1 := Aside0.mk (below_step (below_alloc HB0.out _) hb)
    have x0 := (blk_cell HX1.out 0).trans rfl
    clear hb
    go_wp2
    simp only [Exit.jump]
    go_ret2
    obtain ⟨rfl, rfl⟩ := HRR.out
    exact ⟨by simp [e1, e2, e3], HB1.out⟩
  rw [if_neg c5] at h
  by_cases c6 : a0_0 = 1 ∨ a0_0 = 2 ∨ a0_0 = 4 ∨ a0_0 = 5 ∨ a0_0 = 6 ∨ a0_0 = 7
  ·rw [if_pos c6] at h
   have h := Option.some.inj h
   by_cases k6 : a0_0 = 6
   ·exact sz_L A1 c1 l1 a0_0 a0_1 r1 r2 w hr1 hc1 hlen hask k6 h
   by_cases k7 : a0_0 = 7
   ·exact sz_F A1 c1 l1 a0_0 a0_1 r1 r2 w hr1 hc1 hlen hask k7 h
   exact sz_W A1 c1 l1 a0_0 a0_1 r1 r2 w hr1 hc1 hlen hask (by omega) h
  ·rw [if_neg c6] at h; cases h
 ·rw [if_pos c1'] at h
  have d1 : (e != 0) = true := by simp [bne, c1']
  have HRR := Aside0.mk (show (0 : Int) = r1 ∧ e = r2 by simpa using h)
  clear hr1 hask h
  go_enter Try.func15, Try.ntmps15
  go_wp2
  refine wp_scope_jumps 0 (fun a' w' => r1 = 0 ∧ SzJ w r2 a' w') (fun _ _ => 0) rfl ?_ ?_
  rotate_left 1
  ·rintro a' w' ⟨rfl, ⟨u0, u1, u2, u3, u4, u5, u6, u8, u9, u10, u11, u12, u13, u14, u15, u16, u17, u18, u19, u20, u21, u22, u23, u24, u25, u26, u27, u28, u29, u30, u31, u32, u33, u34, u35, u36, u37, u38, u39, rfl⟩, hB⟩
   have HB := Aside0.mk hB
   clear hB
   go_wp2
   simp only [Exit.jump]
   go_ret2
   exact ⟨rfl, HB.out⟩
  ·go_wp2_with fail
   refine (HASK.out _ (Kd.C_alloc HR.out _)).mono ?_
   rintro e W1 ⟨rfl, hb⟩
   have HB1 := Aside0.mk (below_step (below_alloc HB0.out _) hb)
   clear hb
   go_wp2
   go_step3
   obtain ⟨rfl, rfl⟩ := HRR.out
   exact ⟨rfl, rfl, ⟨_, _, _, _, _, _, _, _, _, _, _, _, _, _, _, _, _, _, _, _, _, _, _, _, _, _, _, _, _, _, _, _, _, _, _, _, _, _, _, rfl⟩, HB1.out⟩
end Go.Proofs.Ytcklkngljapecaa.X
end

section
namespace Go.Proofs.Ytcklkngljapecaa.X
open Go.RowKit Go.Proofs.YtcklkngljapecaaW.PrintWords Go.Proofs.YtcklkngljapecaaW.PrintLast Go.Proofs.YtcklkngljapecaaW.PrintMore
attribute [local go_sem] max2_int min2_int max_two min_two max_three min_three max_four min_four
set_option linter.unusedVariables false
set_option linter.unusedSimpArgs false
def bits_Width.l0 : Nat → Int → Int → Option (Int)
 | 0, _, _ => none
 | k + 1, x0, x3 => if x0 > 0 then (bits_Width.l0 k (x0 / 2) (wrap64 (x3 + 1))) else (some x3)
def bits_Width.f (k : Nat) (a0 : Int) : Option (Int) := bits_Width.l0 k a0 0
theorem bits_Width.mono_l : ∀ k, (∀ y0 y1, LeO (bits_Width.l0 k y0 y1) (bits_Width.l0 (k + 1) y0 y1))
 | 0 => fun _ _ r h => by simp [bits_Width.l0] at h
 | k + 1 => by
  have ih0 := bits_Width.mono_l k
  ·intro y0 y1
   unfold bits_Width.l0
   repeat' first
   | (with_reducible exact ih0 _ _)
   | (with_reducible exact LeO.refl _)
   | (with_reducible exact LeO.none _)
   | (with_reducible refine LeO.ite ?_ ?_)
   | (with_reducible refine LeO.bind ?_ (fun _ => ?_))
   | exact ih0 _ _
   | exact LeO.none _
   | refine LeO.ite ?_ ?_
   | refine LeO.bind ?_ (fun _ => ?_)
theorem bits_Width.mono : ∀ a0 k, LeO (bits_Width.f k a0) (bits_Width.f (k + 1) a0) := by
 intro a0 k
 have ih0 := bits_Width.mono_l k
 unfold bits_Width.f
 repeat' first
   | (with_reducible exact ih0 _ _)
   | (with_reducible exact LeO.refl _)
   | (with_reducible exact LeO.none _)
   | (with_reducible refine LeO.ite ?_ ?_)
   | (with_reducible refine LeO.bind ?_ (fun _ => ?_))
   | exact ih0 _ _
   | exact LeO.none _
   | refine LeO.ite ?_ ?_
   | refine LeO.bind ?_ (fun _ => ?_)
set_option maxHeartbeats 8000000 in
set_option maxRecDepth 100000 in
theorem bits_Width.calls (k : Nat) (a0 : Int) (r : Int) (w : World) (h : bits_Width.f k a0 = some r) :
  Calls Try.prog 38 #[.int .u64 a0] w fun e w' => e = .returned (.int .i64 r) ∧ Drawn0 w w' := by
 have H : (bits_Width.l0 k a0 0) = some r := h
 clear h
 have H' := Aside0.mk H
 clear H
 go_enter Try.func38, Try.ntmps38
 go_wp2
 go_loopg [0, 3] k (fun kq v0 v3 w' => ∃ (x0_1 : Int) (x3_1 : Int), v0 = .int .u64 x0_1 ∧ v3 = .int .i64 x3_1 ∧ Aside0 (bits_Width.l0 kq x0_1 x3_1 = some r) ∧ Aside0 (kq ≤ k) ∧ Drawn0 w w')
 case atStart => exact ⟨(a0), (0), (by first | rfl | (simp; done) | (simp [*]; done)), (by first | rfl | (simp; done) | (simp [*]; done)), H', ⟨Nat.le_refl _⟩, by repeat (first | exact Drawn0.refl _ | apply Drawn0.step)⟩
 case round =>
  clear H'
  obtain ⟨x0_1, x3_1, rfl, rfl, HA, HK1, ⟨m1, rfl⟩⟩ := hrel
  cases gk with
  | zero => exact absurd HA.out (by simp [bits_Width.l0])
  | succ k1 =>
   have H := HA.out
   clear HA
   simp only [bits_Width.l0] at H
   by_cases c2 : x0_1 > 0
   ·rw [if_pos c2] at H
    have c2b0 : decide (0 < x0_1) = true := decide_eq_true c2
    clear c2
    have H' := Aside0.mk H
    clear H
    go_wp2
    go_roundg k1
    case measure => have := HK1.out; omega
    case rel => exact ⟨(x0_1 / 2), (wrap64 (x3_1 + 1)), (by first | rfl | (simp; done) | (simp [*]; done)), (by first | rfl | (simp; done) | (simp [*]; done)), H', ⟨by have := HK1.out; omega⟩, by repeat (first | exact Drawn0.refl _ | apply Drawn0.step)⟩
   ·rw [if_neg c2] at H
    have c2b0 : decide (0 < x0_1) = false := decide_eq_false c2
    clear c2
    obtain rfl := Option.some.inj H
    go_wp2
    go_ret
    exact ⟨by first | rfl | (simp; done) | (simp [*]; done), by repeat (first | exact Drawn0.refl _ | apply Drawn0.step)⟩
end Go.Proofs.Ytcklkngljapecaa.X
end

section
namespace Go.Proofs.Ytcklkngljapecaa.X
open Go.RowKit Go.Proofs.YtcklkngljapecaaW.PrintWords Go.Proofs.YtcklkngljapecaaW.PrintLast Go.Proofs.YtcklkngljapecaaW.PrintMore
attribute [local go_sem] max2_int min2_int max_two min_two max_three min_three max_four min_four
set_option linter.unusedVariables false
set_option linter.unusedSimpArgs false
def pkv (n i x u : Int) : Int := bits .or .u8 x (bits .and .u64 (n / 2 ^ i.toNat) 1 % 256 * 2 ^ u.toNat % 256)
theorem pkv_zero (n i x : Int) : pkv n i x 0 = bits .or .u8 x (bits .and .u64 (n / 2 ^ i.toNat) 1 % 256) := by
 unfold pkv; congr 1; simp
def pkb (n i : Int) (ys : List Int) (u : Int) : List Int := ys.set (ys.length - 1) (pkv n i (rd ys ((ys.length : Int) - 1)) u)
def pkl : Nat → Int → Int → Int → List Int → Int → Option (List Int × Int)
 | 0, _, _, _, _, _ => none
 | k + 1, n, width, i, xs, u =>
  if i < width then
   (if u = 0 then (if xs.length < 1000000000 then pkl k n width (i + 1) (pkb n i (xs ++ [0]) u) ((u + 1) % 8) else none)
   else (if 0 < xs.length ∧ xs.length < 1000000000 then pkl k n width (i + 1) (pkb n i xs u) ((u + 1) % 8) else none))
  else some (xs, u)
theorem pk_info : (Try.prog.info? 5).map (fun i => (i.zero, i.size, i.bytes)) = some (some (.int .u8 0), 1, 1) := by kernel_rfl
theorem pk_after {W w0 : World} {base g b cap : Nat} {xs : List Int} {u : Int} (HG : W.heap[g]? = some (.cells #[.slice (some ⟨b, 0, none⟩) xs.length cap, .int .i64 u] 94 (0, 0)))
  (HO : W.ownsRow base 5 1 (.slice (some ⟨b, 0, none⟩) xs.length cap) xs.length (nums .u8 xs)) (HB : Below base w0 W) (hbg : base ≤ g) (hbb : base ≤ b) (j : Nat) (x u' : Int) :
  ((W.setCell ⟨b, j, none⟩ (.int .u8 x)).setCell ⟨g, 1, none⟩ (.int .i64 u')).heap[g]? = some (.cells #[.slice (some ⟨b, 0, none⟩) xs.length cap, .int .i64 u'] 94 (0, 0)) ∧
  ((W.setCell ⟨b, j, none⟩ (.int .u8 x)).setCell ⟨g, 1, none⟩ (.int .i64 u')).ownsRow base 5 1 (.slice (some ⟨b, 0, none⟩) (xs.set j x).length cap) (xs.set j x).length (nums .u8 (xs.set j x)) ∧
  Below base w0 ((W.setCell ⟨b, j, none⟩ (.int .u8 x)).setCell ⟨g, 1, none⟩ (.int .i64 u')) ∧ ((W.setCell ⟨b, j, none⟩ (.int .u8 x)).setCell ⟨g, 1, none⟩ (.int .i64 u')).heap.size = W.heap.size := by
 have hne : some g ≠ (Value.slice (some ⟨b, 0, none⟩) xs.length cap).ownBlock := own_ne HO HG (by decide)
 have hgb : g ≠ b := by intro e; exact hne (by simp [Value.ownBlock, e])
 have h1 := (own_store HO (j : Int) x).1
 rw [show ((j : Int)).toNat = j from rfl] at h1
 have h2 := blk_far HG (p := ⟨b, j, none⟩) hgb (.int .u8 x)
 have h3 := blk_set h2 1 (.int .i64 u')
 refine ⟨h3, ?_, (HB.setCell (p := ⟨b, j, none⟩) hbb _).setCell (p := ⟨g, 1, none⟩) hbg _, by simp⟩
 have h4 := own_setCell h1 (p := ⟨g, 1, none⟩) (by simpa [Value.ownBlock] using hgb) (.int .i64 u')
 simpa using h4
set_option maxRecDepth 100000 in
set_option maxHeartbeats 1000000 in
theorem pk_add (k : Nat) (g : Nat) (v : Value) (n width : Int) (xs : List Int) (u : Int) (xs' : List Int) (u' : Int) (w0 w : World) (base : Nat) (hu0 : 0 ≤ u) (hu8 : u < 8) (hw0 : 0 ≤ width) (hw1 : width ≤ 64)
  (hg : w.heap[g]? = some (.cells #[v, .int .i64 u] 94 (0, 0))) (ho : w.ownsRow base 5 1 v xs.length (nums .u8 xs)) (hB : Below base w0 w) (hbg : base ≤ g) (h : pkl k n width 0 xs u = some (xs', u')) :
  Calls Try.prog 40 #[.pointer (some ⟨g, 0, none⟩), .int .u64 n, .int .i64 width] w fun e w' => (∃ x, e = .returned x) ∧ (∃ v', w'.heap[g]? = some (.cells #[v', .int .i64 u'] 94 (0, 0)) ∧ w'.ownsRow base 5 1 v' xs'.length (nums .u8 xs')) ∧ Below base w0 w' ∧ w.heap.size ≤ w'.heap.size := by
 have H' := Aside0.mk h
 clear h
 have hg := Aside0.mk hg
 have ho := Aside0.mk ho
 have hB := Aside0.mk hB
 go_enter Try.func40, Try.ntmps40
 go_wp2
 go_loopg [8] k (fun kq v8 w' => ∃ (i : Int) (xs1 : List Int) (u1 : Int) (v1 : Value), v8 = .int .i64 i ∧ Aside0 (pkl kq n width i xs1 u1 = some (xs', u')) ∧ Aside0 (kq ≤ k) ∧ 0 ≤ i ∧ i ≤ width ∧ 0 ≤ u1 ∧ u1 < 8 ∧
  Aside0 (w'.heap[g]? = some (.cells #[v1, .int .i64 u1] 94 (0, 0))) ∧ Aside0 (w'.ownsRow base 5 1 v1 xs1.length (nums .u8 xs1)) ∧ Aside0 (Below base w0 w') ∧ Aside0 (w.heap.size ≤ w'.heap.size))
 case atStart => exact ⟨0, xs, u, v, rfl, H', ⟨Nat.le_refl _⟩, by omega, by omega, hu0, hu8, hg, ho, hB, ⟨Nat.le_refl _⟩⟩
 case round =>
  clear H' hg ho hB hu0 hu8
  obtain ⟨i, xs1, u1, v1, rfl, HA, HK, hi0, hi1, hu0, hu8, HG, HO, HB, HS⟩ := hrel
  cases gk with
  | zero => exact absurd HA.out (by simp [pkl])
  | succ k1 =>
   have H := HA.out
   clear HA
   simp only [pkl] at H
   by_cases hlt : i < width
   ·rw [if_pos hlt] at H
    by_cases hz : u1 = 0
    ·rw [if_pos hz] at H
     subst hz
     by_cases hlim : xs1.length < 1000000000
     ·rw [if_pos hlim] at H
      have H' := Aside0.mk H
      clear H
      have hlim := Aside0.mk hlim
      have c0 : wr.cell? ⟨g, 0, none⟩ = some v1 := blk_cell HG.out 0
      have c1 : wr.cell? ⟨g, 1, none⟩ = some (.int .i64 0) := blk_cell HG.out 1
      have f0 : wr.frozen? ⟨g, 0, none⟩ = false := blk_frozen HG.out 0
      have HS0 := Aside0.mk (show base ≤ wr.heap.size from Nat.le_trans hbg (Nat.le_of_lt (blk_lt HG.out)))
      obtain ⟨ys, hys⟩ : ∃ ys, ys = xs1 ++ [0] := ⟨_, rfl⟩
      rw [← hys] at H'
      have Hys := Aside0.mk hys
      clear hys
      go_wp2_with (first | ((with_reducible refine gate_builtin (b := .append) (xs := #[.tmp 20, .tmp 21]) rfl ?_); at_builtin; refine print_append_num (w0 := w0) base rfl (.tmp 20) (.tmp 21) 22 5 .u8 1 rfl Try.underlying22 pk_info (by decide) v1 xs1 0 rfl rfl HO.out HB.out HS0.out (by have := hlim.out; omega) ?_; intro v2 w2 ho2 hb2 hg2 hat2; rw [← Hys.out] at ho2; obtain ⟨b, cap, rfl, hb1, _⟩ := ho2.form (by rw [Hys.out]; simp); have hG2 := blk_grown HG.out hg2 (own_ne HO.out HG.out (by decide)); have f02 : w2.frozen? ⟨g, 0, none⟩ = false := blk_frozen hG2 0; have c02 : w2.cell? ⟨g, 0, none⟩ = some v1 := blk_cell hG2 0; have hG2 := Aside0.mk hG2; have ho2 := Aside0.mk ho2; have hb2 := Aside0.mk hb2; have hs2 := Aside0.mk hg2.size; clear hg2 hat2 c0 c1 f0))
      have hlim2 : ys.length < 1000000001 := by rw [Hys.out]; simp; have := hlim.out; omega
      have hpos : 0 < ys.length := by rw [Hys.out]; simp
      have hgb : g ≠ b := by intro e; exact own_ne ho2.out hG2.out (by decide) (by simp [Value.ownBlock, e])
      have HG := Aside0.mk (blk_set hG2.out 0 (.slice (some ⟨b, 0, none⟩) ys.length cap))
      have HO := Aside0.mk (own_setCell ho2.out (p := ⟨g, 0, none⟩) (by simpa [Value.ownBlock] using hgb) (.slice (some ⟨b, 0, none⟩) ys.length cap))
      have HB := Aside0.mk (hb2.out.setCell (p := ⟨g, 0, none⟩) hbg (.slice (some ⟨b, 0, none⟩) ys.length cap))
      have HS2 := Aside0.mk (show wr.heap.size ≤ (w2.setCell ⟨g, 0, none⟩ (.slice (some ⟨b, 0, none⟩) ys.length cap)).heap.size by simpa using hs2.out)
      clear ho2 hG2 hb2 hs2 f02 c02
      have c0 : (w2.setCell ⟨g, 0, none⟩ (.slice (some ⟨b, 0, none⟩) ys.length cap)).cell? ⟨g, 0, none⟩ = some (.slice (some ⟨b, 0, none⟩) ys.length cap) := blk_cell HG.out 0
      have c1 : (w2.setCell ⟨g, 0, none⟩ (.slice (some ⟨b, 0, none⟩) ys.length cap)).cell? ⟨g, 1, none⟩ = some (.int .i64 0) := blk_cell HG.out 1
      obtain ⟨cB, fB⟩ := own_at HO.out ((ys.length : Int) - 1) (by omega) (by omega)
      rw [show ((ys.length : Int) - 1).toNat = ys.length - 1 by omega] at cB fB
      obtain ⟨x, hx⟩ : ∃ x, x = rd ys ((ys.length : Int) - 1) := ⟨_, rfl⟩
      rw [← hx] at cB
      have Hx := Aside0.mk hx
      clear hx
      have f1 : (w2.setCell ⟨g, 0, none⟩ (.slice (some ⟨b, 0, none⟩) ys.length cap)).frozen? ⟨g, 1, none⟩ = false := blk_frozen HG.out 1
      have hgb : g ≠ b := by intro e; exact own_ne HO.out HG.out (by decide) (by simp [Value.ownBlock, e])
      refine region_tail 24 (by kernel_rfl) (by kernel_rfl) (fun w3 hw3 => ?_)
      simp only [List.take_succ_cons, List.take_zero, List.drop_succ_cons, List.drop_zero]
      have c0' : w3.cell? ⟨g, 0, none⟩ = some (.slice (some ⟨b, 0, none⟩) ys.length cap) := by rw [hw3]; exact c0
      have c1' : w3.cell? ⟨g, 1, none⟩ = some (.int .i64 0) := by rw [hw3]; exact c1
      have cB' : w3.cell? ⟨b, ys.length - 1, none⟩ = some (.int .u8 x) := by rw [hw3]; exact cB
      have fB' : w3.frozen? ⟨b, ys.length - 1, none⟩ = false := by rw [hw3]; exact fB
      have f1' : w3.frozen? ⟨g, 1, none⟩ = false := by rw [hw3]; exact f1
      have HG3 := Aside0.mk (show w3.heap[g]? = some (.cells #[.slice (some ⟨b, 0, none⟩) ys.length cap, (.int .i64 0)] 94 (0, 0)) by rw [hw3]; exact HG.out)
      have HO3 := Aside0.mk (show w3.ownsRow base 5 1 (.slice (some ⟨b, 0, none⟩) ys.length cap) ys.length (nums .u8 ys) by rw [hw3]; exact HO.out.drew)
      have HB3 := Aside0.mk (show Below base w0 w3 by rw [hw3]; exact below_drew1 HB.out)
      have HS3 := Aside0.mk (show w.heap.size ≤ w3.heap.size by rw [hw3]; exact Nat.le_trans HS.out HS2.out)
      clear hw3 c0 c1 f1 cB fB HG HO HB HS2
      have c1'' : (w3.setCell ⟨b, ys.length - 1, none⟩ (.int .u8 (bits .or .u8 x (bits .and .u64 (n / 2 ^ i.toNat) 1 % 256)))).cell? ⟨g, 1, none⟩ = some (.int .i64 0) := by
       rw [World.cell?_setCell_other _ _ _ _ (by simp [hgb])]; exact c1'
      have f1'' : (w3.setCell ⟨b, ys.length - 1, none⟩ (.int .u8 (bits .or .u8 x (bits .and .u64 (n / 2 ^ i.toNat) 1 % 256)))).frozen? ⟨g, 1, none⟩ = false := by
       rw [World.frozen?_setCell]; exact f1'
      have e1 : IntKind.i64.wrap ((ys.length : Int) - 1) = (ys.length : Int) - 1 := IntWalk.i64_in _ (by omega)
      have e2 : 0 ≤ (ys.length : Int) - 1 := by omega
      have e3 : ((ys.length : Int) - 1).toNat = ys.length - 1 := by omega
      have e5 : 1 ≤ (ys.length : Int) := by omega
      have e4 : (ys.length : Int) - 1 < ys.length := by omega
      repeat still_step
      refine wpStill_nil ?_
      clear e1 e2 e3 e4 e5
      go_wp2
      go_roundg k1
      case measure => have := HK.out; omega
      case rel =>
       obtain ⟨q1, q2, q3, q4⟩ := pk_after HG3.out HO3.out HB3.out hbg hb1 (ys.length - 1) (bits .or .u8 x (bits .and .u64 (n / 2 ^ i.toNat) 1 % 256)) (1)
       have hpl : (pkb n i ys 0).length = ys.length := by simp [pkb]
       refine ⟨i + 1, pkb n i ys 0, 1, .slice (some ⟨b, 0, none⟩) ys.length cap, rfl, H', ⟨by have := HK.out; omega⟩, by omega, by omega, by omega, by omega, ⟨q1⟩, ⟨?_⟩, ⟨q3⟩, ⟨Nat.le_trans HS3.out (Nat.le_of_eq q4.symm)⟩⟩
       rw [List.length_set] at q2
       rw [hpl]; unfold pkb; rw [← Hx.out, pkv_zero]; exact q2
     ·rw [if_neg hlim] at H
      exact absurd H (by simp)
    ·rw [if_neg hz] at H
     have hzb : (u1 == 0) = false := beq_eq_false_iff_ne.2 hz
     by_cases hpos : 0 < xs1.length ∧ xs1.length < 1000000000
     ·rw [if_pos hpos] at H
      have H' := Aside0.mk H
      clear H hz
      obtain ⟨hpos, hlim⟩ := hpos
      obtain ⟨b, cap, rfl, hb1, hb2⟩ := HO.out.form hpos
      have c0 : wr.cell? ⟨g, 0, none⟩ = some (.slice (some ⟨b, 0, none⟩) xs1.length cap) := blk_cell HG.out 0
      have c1 : wr.cell? ⟨g, 1, none⟩ = some (.int .i64 u1) := blk_cell HG.out 1
      have HS2 := Aside0.mk (Nat.le_refl wr.heap.size)
      go_wp2_with fail
      obtain ⟨cB, fB⟩ := own_at HO.out ((xs1.length : Int) - 1) (by omega) (by omega)
      rw [show ((xs1.length : Int) - 1).toNat = xs1.length - 1 by omega] at cB fB
      obtain ⟨x, hx⟩ : ∃ x, x = rd xs1 ((xs1.length : Int) - 1) := ⟨_, rfl⟩
      rw [← hx] at cB
      have Hx := Aside0.mk hx
      clear hx
      have f1 : wr.frozen? ⟨g, 1, none⟩ = false := blk_frozen HG.out 1
      have hgb : g ≠ b := by intro e; exact own_ne HO.out HG.out (by decide) (by simp [Value.ownBlock, e])
      refine region_tail 24 (by kernel_rfl) (by kernel_rfl) (fun w3 hw3 => ?_)
      simp only [List.take_succ_cons, List.take_zero, List.drop_succ_cons, List.drop_zero]
      have c0' : w3.cell? ⟨g, 0, none⟩ = some (.slice (some ⟨b, 0, none⟩) xs1.length cap) := by rw [hw3]; exact c0
      have c1' : w3.cell? ⟨g, 1, none⟩ = some (.int .i64 u1) := by rw [hw3]; exact c1
      have cB' : w3.cell? ⟨b, xs1.length - 1, none⟩ = some (.int .u8 x) := by rw [hw3]; exact cB
      have fB' : w3.frozen? ⟨b, xs1.length - 1, none⟩ = false := by rw [hw3]; exact fB
      have f1' : w3.frozen? ⟨g, 1, none⟩ = false := by rw [hw3]; exact f1
      have HG3 := Aside0.mk (show w3.heap[g]? = some (.cells #[.slice (some ⟨b, 0, none⟩) xs1.length cap, (.int .i64 u1)] 94 (0, 0)) by rw [hw3]; exact HG.out)
      have HO3 := Aside0.mk (show w3.ownsRow base 5 1 (.slice (some ⟨b, 0, none⟩) xs1.length cap) xs1.length (nums .u8 xs1) by rw [hw3]; exact HO.out.drew)
      have HB3 := Aside0.mk (show Below base w0 w3 by rw [hw3]; exact below_drew1 HB.out)
      have HS3 := Aside0.mk (show w.heap.size ≤ w3.heap.size by rw [hw3]; exact Nat.le_trans HS.out HS2.out)
      clear hw3 c0 c1 f1 cB fB HG HO HB HS2
      have c1'' : (w3.setCell ⟨b, xs1.length - 1, none⟩ (.int .u8 (bits .or .u8 x (bits .and .u64 (n / 2 ^ i.toNat) 1 % 256 * 2 ^ u1.toNat % 256)))).cell? ⟨g, 1, none⟩ = some (.int .i64 u1) := by
       rw [World.cell?_setCell_other _ _ _ _ (by simp [hgb])]; exact c1'
      have f1'' : (w3.setCell ⟨b, xs1.length - 1, none⟩ (.int .u8 (bits .or .u8 x (bits .and .u64 (n / 2 ^ i.toNat) 1 % 256 * 2 ^ u1.toNat % 256)))).frozen? ⟨g, 1, none⟩ = false := by
       rw [World.frozen?_setCell]; exact f1'
      have e1 : IntKind.i64.wrap ((xs1.length : Int) - 1) = (xs1.length : Int) - 1 := IntWalk.i64_in _ (by omega)
      have e2 : 0 ≤ (xs1.length : Int) - 1 := by omega
      have e3 : ((xs1.length : Int) - 1).toNat = xs1.length - 1 := by omega
      have e5 : 1 ≤ (xs1.length : Int) := by omega
      have e4 : (xs1.length : Int) - 1 < xs1.length := by omega
      repeat still_step
      refine wpStill_nil ?_
      clear e1 e2 e3 e4 e5
      go_wp2
      go_roundg k1
      case measure => have := HK.out; omega
      case rel =>
       obtain ⟨q1, q2, q3, q4⟩ := pk_after HG3.out HO3.out HB3.out hbg hb1 (xs1.length - 1) (bits .or .u8 x (bits .and .u64 (n / 2 ^ i.toNat) 1 % 256 * 2 ^ u1.toNat % 256)) ((u1 + 1) % 8)
       have hpl : (pkb n i xs1 u1).length = xs1.length := by simp [pkb]
       refine ⟨i + 1, pkb n i xs1 u1, (u1 + 1) % 8, .slice (some ⟨b, 0, none⟩) xs1.length cap, rfl, H', ⟨by have := HK.out; omega⟩, by omega, by omega, by omega, by omega, ⟨q1⟩, ⟨?_⟩, ⟨q3⟩, ⟨Nat.le_trans HS3.out (Nat.le_of_eq q4.symm)⟩⟩
       rw [List.length_set] at q2
       rw [hpl]; unfold pkb; rw [← Hx.out, show pkv n i x u1 = bits .or .u8 x (bits .and .u64 (n / 2 ^ i.toNat) 1 % 256 * 2 ^ u1.toNat % 256) from rfl]; exact q2
     ·rw [if_neg hpos] at H
      exact absurd H (by simp)
   ·rw [if_neg hlt] at H
    obtain ⟨rfl, rfl⟩ : xs1 = xs' ∧ u1 = u' := by simpa using H
    clear H
    go_wp2
    go_end0
    exact ⟨⟨_, rfl⟩, ⟨v1, HG.out, HO.out⟩, HB.out, HS.out⟩
def pkc (K : Nat) (width : Int) : List Int → Option Bool
 | [] => some true
 | x :: l => (bits_Width.f K x).bind fun t => if t > width then some false else pkc K width l
def pks (K : Nat) (width : Int) : List Int → List Int → Int → Option (List Int × Int)
 | [], xs, u => some (xs, u)
 | x :: l, xs, u => (pkl K x width 0 xs u).bind fun p => if 0 ≤ p.2 ∧ p.2 < 8 then pks K width l p.1 p.2 else none
def bits_Pack.f (k : Nat) (a0 : Int) (l1 : List Int) : Option (List Int × Int) :=
 if a0 < 0 then some ([], 2) else if a0 > 64 then some ([], 2) else
 (pkc k a0 l1).bind fun b => if b = true then (bits_Size.f k a0 (l1.length : Int)).bind fun s => if s.2 = 0 then (pks k a0 l1 [] 0).bind fun p => some (p.1, 0) else some ([], s.2) else some ([], 2)
theorem pkl_mono : ∀ k n width i xs u, LeO (pkl k n width i xs u) (pkl (k + 1) n width i xs u)
 | 0, _, _, _, _, _ => LeO.none _
 | k + 1, n, width, i, xs, u => by
  rw [pkl, pkl]
  exact LeO.ite (LeO.ite (LeO.ite (pkl_mono k _ _ _ _ _) (LeO.refl _)) (LeO.ite (pkl_mono k _ _ _ _ _) (LeO.refl _))) (LeO.refl _)
theorem pkc_mono : ∀ k width l, LeO (pkc k width l) (pkc (k + 1) width l)
 | _, _, [] => LeO.refl _
 | k, width, x :: l => by
  rw [pkc, pkc]
  exact LeO.bind (bits_Width.mono _ _) (fun _ => LeO.ite (LeO.refl _) (pkc_mono k width l))
theorem pks_mono : ∀ k width l xs u, LeO (pks k width l xs u) (pks (k + 1) width l xs u)
 | _, _, [], _, _ => LeO.refl _
 | k, width, x :: l, xs, u => by
  rw [pks, pks]
  exact LeO.bind (pkl_mono _ _ _ _ _ _) (fun _ => LeO.ite (pks_mono k width l _ _) (LeO.refl _))
theorem bits_Pack.mono : ∀ a0 l1 k, LeO (bits_Pack.f k a0 l1) (bits_Pack.f (k + 1) a0 l1) := by
 intro a0 l1 k
 unfold bits_Pack.f
 exact LeO.ite (LeO.refl _) (LeO.ite (LeO.refl _) (LeO.bind (pkc_mono _ _ _) (fun _ => LeO.ite (LeO.bind (bits_Size.mono _ _ _) (fun _ => LeO.ite (LeO.bind (pks_mono _ _ _ _ _) (fun _ => LeO.refl _)) (LeO.refl _))) (LeO.refl _))))
theorem drop_at {l : List Int} {i : Nat} (h : i < l.length) : l.drop i = l.getD i 0 :: l.drop (i + 1) := by
 rw [List.drop_eq_getElem_cons h, List.getD_eq_getElem?_getD, List.getElem?_eq_getElem h]; rfl
set_option maxRecDepth 100000 in
set_option maxHeartbeats 1000000 in
theorem pk_pack (k : Nat) (a0 : Int) (A1 : Option Addr) (c1 : Nat) (l1 : List Int) (r1 : List Int) (r2 : Int) (w : World) (hr1 : Kd.C (Kd.int .u64) w A1 l1.length l1) (hc1 : l1.length ≤ c1) (ha0 : ¬ a0 < 0) (ha1 : ¬ a0 > 64)
  (h : ((pkc k a0 l1).bind fun b => if b = true then (bits_Size.f k a0 (l1.length : Int)).bind fun s => if s.2 = 0 then (pks k a0 l1 [] 0).bind fun p => some (p.1, 0) else some ([], s.2) else some ([], 2)) = some (r1, r2)) :
  Calls Try.prog 25 #[.int .i64 a0, .slice A1 l1.length c1] w fun e w' => ∃ v0_ : Value, e = .returned (.tuple #[v0_, .int .i64 r2]) ∧ Kd.R (Kd.int .u8) 5 w' w.heap.size (fun _ => True) v0_ r1 ∧ Below w.heap.size w w' := by
 obtain ⟨b, hb, h⟩ := Option.bind_eq_some_iff.1 h
 have Hb := Aside0.mk hb
 have H := Aside0.mk h
 clear h hb
 have hl : l1.length ≤ 9223372036854775807 := hr1.2.1
 have HR1 := Aside0.mk hr1
 clear hr1
 have ha0b := decide_eq_false ha0
 have ha1b := decide_eq_false ha1
 have ha00 : 0 ≤ a0 := by omega
 have ha64 : a0 ≤ 64 := by omega
 clear ha0 ha1
 go_enter Try.func25, Try.ntmps25
 go_wp2
 go_loopw [21] (fun v21 w' => ∃ j : Nat, v21 = .int .i64 j ∧ j ≤ l1.length ∧ Aside0 (pkc k a0 (l1.drop j) = some b) ∧ Aside0 (Drawn0 w w')) (fun v21 w' => l1.length - (intOf v21).toNat)
 case atStart => exact ⟨0, rfl, Nat.zero_le _, by simpa using Hb, ⟨Drawn0.refl _⟩⟩
 case round =>
  obtain ⟨j, rfl, hj, HA, HD⟩ := hrel
  by_cases hlt : j < l1.length
  ·have hA := HA.out
   rw [drop_at hlt, pkc] at hA
   obtain ⟨t, ht, hA⟩ := Option.bind_eq_some_iff.1 hA
   have Ht := Aside0.mk ht
   clear ht
   obtain ⟨ad, rfl, hcell⟩ := c_at (Kd.C_below HR1.out HD.out.below) (j : Int) (by omega) (by omega)
   have e : rd l1 (j : Int) = l1.getD j 0 := rfl
   rw [e, show ((j : Int)).toNat = j from rfl] at hcell
   obtain ⟨x, hx⟩ : ∃ x, x = l1.getD j 0 := ⟨_, rfl⟩
   rw [← hx] at hcell Ht
   clear e hx
   by_cases htw : t > a0
   ·rw [if_pos htw] at hA
    obtain rfl := Option.some.inj hA
    clear hA HA
    have H2 := H.out
    rw [if_neg (by decide)] at H2
    obtain ⟨rfl, rfl⟩ : ([] : List Int) = r1 ∧ 2 = r2 := by simpa using H2
    clear H2
    have htwb := decide_eq_true (show a0 < t from htw)
    go_wp2_with (go_at_call 38; refine (bits_Width.calls k x t _ Ht.out).mono ?_; rintro e w' ⟨rfl, ⟨nd, rfl⟩⟩)
    go_ret2
    exact ⟨_, rfl, Kd.R_nil _ _ _ _ _, by repeat (first | exact HD.out.below | apply pw_below_drewN)⟩
   ·rw [if_neg htw] at hA
    have HA' := Aside0.mk hA
    clear hA HA
    have htwb := decide_eq_false (show ¬ a0 < t from htw)
    go_wp2_with (go_at_call 38; refine (bits_Width.calls k x t _ Ht.out).mono ?_; rintro e w' ⟨rfl, ⟨nd, rfl⟩⟩)
    go_roundw
    case rel => exact ⟨j + 1, by go_num, by omega, HA', ⟨HD.out.step _⟩⟩
    case measure => simp [intOf]; omega
  ·have hA := HA.out
   rw [List.drop_eq_nil_of_le (by omega), pkc] at hA
   obtain rfl := Option.some.inj hA
   clear hA HA
   have h2 := H.out
   rw [if_pos rfl] at h2
   obtain ⟨⟨s1, s2⟩, hs, h2⟩ := Option.bind_eq_some_iff.1 h2
   have Hs := Aside0.mk hs
   have H2 := Aside0.mk h2
   clear hs h2 H Hb
   by_cases hs2 : s2 = 0
   ·subst hs2
    have h3 := H2.out
    rw [if_pos rfl] at h3
    obtain ⟨⟨p1, p2⟩, hp, h3⟩ := Option.bind_eq_some_iff.1 h3
    obtain ⟨rfl, rfl⟩ : p1 = r1 ∧ 0 = r2 := by simpa using h3
    have Hp := Aside0.mk hp
    clear hp h3 H2 h
    obtain ⟨wo, rfl⟩ : ∃ wo : World, wo = wr := ⟨_, rfl⟩
    have HDB := Aside0.mk HD.out.below
    have HSZ := Aside0.mk HD.out.below.size
    clear HD
    go_wp2_with (go_at_call 39; refine (bits_Size.calls k a0 (l1.length : Int) s1 0 _ Hs.out).mono ?_; rintro e w' ⟨rfl, ⟨nd, rfl⟩⟩)
    go_loopw [42] (fun v42 w' => ∃ (j : Nat) (xs : List Int) (u : Int) (v : Value), v42 = .int .i64 j ∧ j ≤ l1.length ∧ Aside0 (pks k a0 (l1.drop j) xs u = some (p1, p2)) ∧ 0 ≤ u ∧ u < 8 ∧
     Aside0 (w'.heap[wo.heap.size]? = some (.cells #[v, .int .i64 u] 94 (0, 0))) ∧ Aside0 (w'.ownsRow w.heap.size 5 1 v xs.length (nums .u8 xs)) ∧ Aside0 (Below w.heap.size w w')) (fun v42 w' => l1.length - (intOf v42).toNat)
    case atStart => exact ⟨0, [], 0, .slice none 0 0, rfl, Nat.zero_le _, by simpa using Hp, Int.le_refl _, by omega, ⟨by have := blk_new (wo.drewN nd) (.cells #[.slice none 0 0, .int .i64 0] 94); simpa using this⟩, ⟨own_nil _ _ _ _⟩, ⟨below_alloc (pw_below_drewN HDB.out _) _⟩⟩
    case round =>
     clear Hp
     obtain ⟨j, xs, u, v, rfl, hj, HA, hu0, hu8, HG, HO, HB⟩ := hrel
     by_cases hlt : j < l1.length
     ·have hA := HA.out
      rw [drop_at hlt, pks] at hA
      obtain ⟨⟨ys, u2⟩, ht, hA⟩ := Option.bind_eq_some_iff.1 hA
      have Ht := Aside0.mk ht
      clear ht
      by_cases hu2 : 0 ≤ u2 ∧ u2 < 8
      ·rw [if_pos hu2] at hA
       have HA' := Aside0.mk hA
       clear hA HA
       obtain ⟨hu20, hu28⟩ := hu2
       obtain ⟨ad, rfl, hcell⟩ := c_at (Kd.C_below HR1.out HB.out) (j : Int) (by omega) (by omega)
       have e : rd l1 (j : Int) = l1.getD j 0 := rfl
       rw [e, show ((j : Int)).toNat = j from rfl] at hcell
       obtain ⟨x, hx⟩ : ∃ x, x = l1.getD j 0 := ⟨_, rfl⟩
       rw [← hx] at hcell Ht
       clear e hx
       have HC := pk_add k wo.heap.size v x a0 xs u ys u2 w wr w.heap.size hu0 hu8 ha00 ha64 HG.out HO.out HB.out HSZ.out Ht.out
       clear HG HO
       go_wp2_with fail
       refine HC.mono ?_
       clear HC
       rintro e w2 ⟨⟨x', rfl⟩, ⟨v2, hg2, ho2⟩, hb2, hs2⟩
       have hg2 := Aside0.mk hg2
       have ho2 := Aside0.mk ho2
       have hb2 := Aside0.mk hb2
       have hs2 := Aside0.mk hs2
       go_wp2
       go_roundw
       case rel => exact ⟨j + 1, ys, u2, v2, by go_num, by omega, HA', hu20, hu28, hg2, ho2, hb2⟩
       case measure => simp [intOf]; omega
      ·rw [if_neg hu2] at hA
       exact absurd hA (by simp)
     ·have hA := HA.out
      rw [List.drop_eq_nil_of_le (by omega), pks] at hA
      obtain ⟨rfl, rfl⟩ : xs = p1 ∧ u = p2 := by simpa using hA
      clear hA HA
      have c0 : wr.cell? ⟨wo.heap.size, 0, none⟩ = some v := blk_cell HG.out 0
      go_wp2
      go_ret2
      exact ⟨_, rfl, Kd.R_of_own (enc := Value.int .u8) (h1 := fun _ => rfl) HO.out (fun _ _ => trivial), HB.out⟩
   ·have h3 := H2.out
    rw [if_neg hs2] at h3
    obtain ⟨rfl, rfl⟩ : ([] : List Int) = r1 ∧ s2 = r2 := by simpa using h3
    clear h3 H2 h
    have hs2b : (s2 != 0) = true := by simpa using hs2
    clear hs2
    go_wp2_with (go_at_call 39; refine (bits_Size.calls k a0 (l1.length : Int) s1 s2 _ Hs.out).mono ?_; rintro e w' ⟨rfl, ⟨nd, rfl⟩⟩)
    go_ret2
    exact ⟨_, rfl, Kd.R_nil _ _ _ _ _, by repeat (first | exact HD.out.below | apply pw_below_drewN)⟩
set_option maxHeartbeats 400000 in
theorem pk_bad (a0 : Int) (A1 : Option Addr) (c1 : Nat) (l1 : List Int) (w : World) (h : a0 < 0 ∨ a0 > 64) :
  Calls Try.prog 25 #[.int .i64 a0, .slice A1 l1.length c1] w fun e w' => e = .returned (.tuple #[.slice none 0 0, .int .i64 2]) ∧ Below w.heap.size w w' := by
 by_cases h0 : a0 < 0
 ·clear h
  have h0b := decide_eq_true h0
  go_enter Try.func25, Try.ntmps25
  go_wp2
  go_ret2
  exact ⟨rfl, Below.refl _ _⟩
 ·have h1 : 64 < a0 := by omega
  clear h
  have h0b := decide_eq_false h0
  have h1b := decide_eq_true h1
  go_enter Try.func25, Try.ntmps25
  go_wp2
  go_ret2
  exact ⟨rfl, Below.refl _ _⟩
theorem bits_Pack.calls (k : Nat) (a0 : Int) (A1 : Option Addr) (c1 : Nat) (l1 : List Int) (r1 : List Int) (r2 : Int) (w : World) (hr1 : Kd.C (Kd.int .u64) w A1 l1.length l1) (hc1 : l1.length ≤ c1) (h : bits_Pack.f k a0 l1 = some (r1, r2)) :
  Calls Try.prog 25 #[.int .i64 a0, .slice A1 l1.length c1] w fun e w' => ∃ v0_ : Value, e = .returned (.tuple #[v0_, .int .i64 r2]) ∧ Kd.R (Kd.int .u8) 5 w' w.heap.size (fun _ => True) v0_ r1 ∧ Below w.heap.size w w' := by
 unfold bits_Pack.f at h
 by_cases c : a0 < 0
 ·rw [if_pos c] at h
  obtain ⟨rfl, rfl⟩ : ([] : List Int) = r1 ∧ 2 = r2 := by simpa using h
  exact (pk_bad a0 A1 c1 l1 w (.inl c)).mono fun e w' ⟨he, hb⟩ => ⟨_, he, Kd.R_nil _ _ _ _ _, hb⟩
 ·rw [if_neg c] at h
  by_cases d : a0 > 64
  ·rw [if_pos d] at h
   obtain ⟨rfl, rfl⟩ : ([] : List Int) = r1 ∧ 2 = r2 := by simpa using h
   exact (pk_bad a0 A1 c1 l1 w (.inr d)).mono fun e w' ⟨he, hb⟩ => ⟨_, he, Kd.R_nil _ _ _ _ _, hb⟩
  ·rw [if_neg d] at h
   exact pk_pack k a0 A1 c1 l1 r1 r2 w hr1 hc1 c d h
end Go.Proofs.Ytcklkngljapecaa.X
end

section
namespace Go.Proofs.Ytcklkngljapecaa.X
open Go.RowKit Go.Proofs.YtcklkngljapecaaW.PrintWords Go.Proofs.YtcklkngljapecaaW.PrintLast Go.Proofs.YtcklkngljapecaaW.PrintMore
attribute [local go_sem] max2_int min2_int max_two min_two max_three min_three max_four min_four
set_option linter.unusedVariables false
set_option linter.unusedSimpArgs false
mutual
def bits_Little.j0 : Nat → Int → Int → Bool → Option (List Int × Int)
 | 0, _, _, _ => none
 | k + 1, x0, x1, x23 => if x23 = true then (some (([] : List Int), 2)) else (bits_Little.l0 k x0 ([] : List Int) x1 0)
def bits_Little.l0 : Nat → Int → List Int → Int → Int → Option (List Int × Int)
 | 0, _, _, _, _ => none
 | k + 1, x0, x6, x24, x25 => if x25 < x24 then (if x6.length < 140737488355328 then (bits_Little.l0 k (x0 / 256) (x6 ++ [(x0) % 256]) x24 (wrap64 (x25 + 1))) else (none)) else (some (x6, 0))
end
def bits_Little.f (k : Nat) (a0 : Int) (a1 : Int) : Option (List Int × Int) := if a1 < 0 then (bits_Little.j0 k a0 a1 true) else (if a1 > 8 then (bits_Little.j0 k a0 a1 true) else (if a1 < 8 then (if 0 ≤ (wrap64 (8 * a1)) then (bits_Little.j0 k a0 a1 ((shr .u64 a0 (wrap64 (8 * a1))) != 0)) else (none)) else (bits_Little.j0 k a0 a1 false)))
theorem bits_Little.mono_l : ∀ k, (∀ y0 y1 y2, LeO (bits_Little.j0 k y0 y1 y2) (bits_Little.j0 (k + 1) y0 y1 y2)) ∧ (∀ y0 y1 y2 y3, LeO (bits_Little.l0 k y0 y1 y2 y3) (bits_Little.l0 (k + 1) y0 y1 y2 y3))
 | 0 => ⟨fun _ _ _ r h => by simp [bits_Little.j0] at h, fun _ _ _ _ r h => by simp [bits_Little.l0] at h⟩
 | k + 1 => by
  obtain ⟨ih0, ih1⟩ := bits_Little.mono_l k
  refine ⟨?_, ?_⟩
  ·intro y0 y1 y2
   unfold bits_Little.j0
   repeat' first
   | (with_reducible exact ih0 _ _ _)
   | (with_reducible exact ih1 _ _ _ _)
   | (with_reducible exact LeO.refl _)
   | (with_reducible exact LeO.none _)
   | (with_reducible refine LeO.ite ?_ ?_)
   | (with_reducible refine LeO.bind ?_ (fun _ => ?_))
   | exact ih0 _ _ _
   | exact ih1 _ _ _ _
   | exact LeO.none _
   | refine LeO.ite ?_ ?_
   | refine LeO.bind ?_ (fun _ => ?_)
  ·intro y0 y1 y2 y3
   unfold bits_Little.l0
   repeat' first
   | (with_reducible exact ih0 _ _ _)
   | (with_reducible exact ih1 _ _ _ _)
   | (with_reducible exact LeO.refl _)
   | (with_reducible exact LeO.none _)
   | (with_reducible refine LeO.ite ?_ ?_)
   | (with_reducible refine LeO.bind ?_ (fun _ => ?_))
   | exact ih0 _ _ _
   | exact ih1 _ _ _ _
   | exact LeO.none _
   | refine LeO.ite ?_ ?_
   | refine LeO.bind ?_ (fun _ => ?_)
theorem bits_Little.mono : ∀ a0 a1 k, LeO (bits_Little.f k a0 a1) (bits_Little.f (k + 1) a0 a1) := by
 intro a0 a1 k
 obtain ⟨ih0, ih1⟩ := bits_Little.mono_l k
 unfold bits_Little.f
 repeat' first
   | (with_reducible exact ih0 _ _ _)
   | (with_reducible exact ih1 _ _ _ _)
   | (with_reducible exact LeO.refl _)
   | (with_reducible exact LeO.none _)
   | (with_reducible refine LeO.ite ?_ ?_)
   | (with_reducible refine LeO.bind ?_ (fun _ => ?_))
   | exact ih0 _ _ _
   | exact ih1 _ _ _ _
   | exact LeO.none _
   | refine LeO.ite ?_ ?_
   | refine LeO.bind ?_ (fun _ => ?_)
set_option maxHeartbeats 8000000 in
set_option maxRecDepth 100000 in
theorem bits_Little.calls (k : Nat) (a0 : Int) (a1 : Int) (r1 : List Int) (r2 : Int) (w : World) (h : bits_Little.f k a0 a1 = some (r1, r2)) :
  Calls Try.prog 50 #[.int .u64 a0, .int .i64 a1] w fun e w' => ∃ v0_ : Value, e = .returned (.tuple #[v0_, .int .i64 r2]) ∧ Kd.R (Kd.int .u8) 5 w' w.heap.size (fun _ => True) v0_ r1 ∧ Below w.heap.size w w' := by
 have HB := Aside0.mk (Below.refl w.heap.size w)
 have H : (if a1 < 0 then (bits_Little.j0 k a0 a1 true) else (if a1 > 8 then (bits_Little.j0 k a0 a1 true) else (if a1 < 8 then (if 0 ≤ (wrap64 (8 * a1)) then (bits_Little.j0 k a0 a1 ((shr .u64 a0 (wrap64 (8 * a1))) != 0)) else (none)) else (bits_Little.j0 k a0 a1 false)))) = some (r1, r2) := h
 clear h
 have HC3 := Aside0.mk H
 clear H
 go_enter Try.func50, Try.ntmps50
 go_upto_region 1 with (fail)
 go_cut [23] (fun v23 wc => ∃ (kq : Nat) (x23_2 : Bool), v23 = .bool x23_2 ∧ Aside0 (bits_Little.j0 kq a0 a1 x23_2 = some (r1, r2)) ∧ Aside0 (kq ≤ k) ∧ Aside0 (Below w.heap.size w wc))
 case first =>
  have H := HC3.out
  clear HC3
  by_cases c4 : a1 < 0
  ·rw [if_pos c4] at H
   have c4b0 : decide (a1 < 0) = true := decide_eq_true c4
   clear c4
   (first | rw [c4b0] | (simp only [i64_w, i32_w]; rw [c4b0]) | skip)
   have H' := Aside0.mk H
   clear H
   go_wp2
   go_meet
   case rel => exact ⟨_, (true), (by first | rfl | (simp; done) | (simp [*]; done)), H', ⟨by first | omega | exact Nat.le_refl _⟩, ⟨by repeat (first | (with_reducible first | exact HB.out | apply below_alloc | apply pw_below_drewN | apply below_drew1) | exact HB.out)⟩⟩
  ·rw [if_neg c4] at H
   have c4b0 : decide (a1 < 0) = false := decide_eq_false c4
   clear c4
   (first | rw [c4b0] | (simp only [i64_w, i32_w]; rw [c4b0]) | skip)
   by_cases c5 : a1 > 8
   ·rw [if_pos c5] at H
    have c5b0 : decide (8 < a1) = true := decide_eq_true c5
    clear c5
    have H' := Aside0.mk H
    clear H
    go_wp2
    go_meet
    case rel => exact ⟨_, (true), (by first | rfl | (simp; done) | (simp [*]; done)), H', ⟨by first | omega | exact Nat.le_refl _⟩, ⟨by repeat (first | (with_reducible first | exact HB.out | apply below_alloc | apply pw_below_drewN | apply below_drew1) | exact HB.out)⟩⟩
   ·rw [if_neg c5] at H
    have c5b0 : decide (8 < a1) = false := decide_eq_false c5
    clear c5
    by_cases c6 : a1 < 8
    ·rw [if_pos c6] at H
     have c6b0 : decide (a1 < 8) = true := decide_eq_true c6
     clear c6
     obtain ⟨ji7, hji7⟩ : ∃ j_ : Int, (wrap64 (8 * a1)) = j_ := ⟨_, rfl⟩
     replace H : (if 0 ≤ (ji7) then (bits_Little.j0 k a0 a1 ((shr .u64 a0 (ji7)) != 0)) else (none)) = some (r1, r2) := by first | (rw [hji7] at H; exact H) | (simp only [hji7] at H ⊢; exact H)
     have hji7w : (IntKind.i64.wrap (8 * a1)) = ji7 := (i64_w _).trans hji7
     by_cases c8 : 0 ≤ (ji7)
     ·rw [if_pos c8] at H
      have c8b0 := eq_true c8
      have c8b1 : decide (0 ≤ (ji7)) = true := decide_eq_true c8
      clear c8
      obtain ⟨ji9, hji9⟩ : ∃ j_ : Int, (shr .u64 a0 (ji7)) = j_ := ⟨_, rfl⟩
      replace H : (bits_Little.j0 k a0 a1 ((ji9) != 0)) = some (r1, r2) := by first | (rw [hji9] at H; exact H) | (simp only [hji9] at H ⊢; exact H)
      have hji9_ : (a0 / 2 ^ min (ji7).toNat 64) = ji9 := hji9
      have hji9z : (ji7) ≤ 64 → (a0 / 2 ^ (ji7).toNat) = ji9 := shr_small hji9
      have H' := Aside0.mk H
      clear H
      go_wp2
      go_meet
      case rel => exact ⟨_, (((ji9) != 0)), (by first | rfl | (simp; done) | (simp only [← hji9] <;> (first | rfl | simp)) | (simp [*]; done)), H', ⟨by first | omega | exact Nat.le_refl _⟩, ⟨by repeat (first | (with_reducible first | exact HB.out | apply below_alloc | apply pw_below_drewN | apply below_drew1) | exact HB.out)⟩⟩
     ·rw [if_neg c8] at H
      exact absurd H (by simp)
    ·rw [if_neg c6] at H
     have c6b0 : decide (a1 < 8) = false := decide_eq_false c6
     clear c6
     have H' := Aside0.mk H
     clear H
     go_wp2
     go_meet
     case rel => exact ⟨_, (false), (by first | rfl | (simp; done) | (simp [*]; done)), H', ⟨by first | omega | exact Nat.le_refl _⟩, ⟨by repeat (first | (with_reducible first | exact HB.out | apply below_alloc | apply pw_below_drewN | apply below_drew1) | exact HB.out)⟩⟩
 case rest =>
  clear HC3
  try clear p2
  try clear c4
  try clear c4b0
  try clear c5
  try clear c5b0
  try clear c6
  try clear c6b0
  try clear p6
  try clear c8
  try clear c8b0
  try clear c8b1
  obtain ⟨kq, x23_2, rfl, HA, HJ2, HB⟩ := hcut
  cases kq with
  | zero => exact absurd HA.out (by simp [bits_Little.j0])
  | succ kj2 =>
   have H := HA.out
   clear HA
   simp only [bits_Little.j0] at H
   by_cases c10 : x23_2 = true
   ·subst c10
    have H1 : (some (([] : List Int), 2)) = some (r1, r2) := by rw [if_pos rfl] at H; exact H
    clear H
    have H := H1
    clear H1
    simp only [Option.some.injEq, Prod.mk.injEq] at H
    obtain ⟨rfl, rfl⟩ := H
    go_wp2
    go_ret2
    exact ⟨_, by first | rfl | (simp [errW_none, errW_some] <;> rfl) | (simp [*, errW_none, errW_some] <;> rfl), by first | exact Kd.R_nil _ _ _ _ _ | exact Kd.N_nil _ _ _ _ _ | exact Kd.V_nil _ _ _ _ _ | exact Kd.Q_nil _ _ _ _ _ | exact Kd.S_nil _ _ _ _ _, by repeat (first | (with_reducible first | exact HB.out | apply below_alloc | apply pw_below_drewN | apply below_drew1) | exact HB.out)⟩
   ·replace c10 := Bool.eq_false_iff.mpr c10
    subst c10
    have H1 : (bits_Little.l0 kj2 a0 ([] : List Int) a1 0) = some (r1, r2) := by rw [if_neg (show ¬ (false = true) by decide)] at H; exact H
    clear H
    have H := H1
    clear H1
    have H' := Aside0.mk H
    clear H
    go_wp2
    go_loopg [0, 6, 25] kj2 (fun kq v0 v6 v25 w' => ∃ (x0_2 : Int) (x6_2 : List Int) (x25_2 : Int), v0 = .int .u64 x0_2 ∧ v25 = .int .i64 x25_2 ∧ Aside0 (bits_Little.l0 kq x0_2 x6_2 a1 x25_2 = some (r1, r2)) ∧ Aside0 (kq ≤ kj2) ∧ Aside0 (Kd.R (Kd.int .u8) 5 w' w.heap.size (fun _ => True) v6 x6_2) ∧ Aside0 (Below w.heap.size w w'))
    case atStart => exact ⟨(a0), (([] : List Int)), (0), (by first | rfl | (simp; done) | (simp [*]; done)), (by first | rfl | (simp; done) | (simp [*]; done)), H', ⟨Nat.le_refl _⟩, ⟨by first | exact Kd.R_nil _ _ _ _ _ | exact Kd.N_nil _ _ _ _ _ | exact Kd.V_nil _ _ _ _ _ | exact Kd.Q_nil _ _ _ _ _ | exact Kd.S_nil _ _ _ _ _⟩, ⟨by repeat (first | (with_reducible first | exact HB.out | apply below_alloc | apply pw_below_drewN | apply below_drew1) | exact HB.out)⟩⟩
    case round =>
     clear H'
     try clear c1
     try clear p2
     try clear c4
     try clear c4b0
     try clear c5
     try clear c5b0
     try clear c6
     try clear c6b0
     try clear p6
     try clear c8
     try clear c8b0
     try clear c8b1
     try clear c10
     try clear p2
     try clear p6
     obtain ⟨x0_2, x6_2, x25_2, rfl, rfl, HA, HK2, HO_6, HB⟩ := hrel
     cases gk with
     | zero => exact absurd HA.out (by simp [bits_Little.l0])
     | succ k2 =>
      have H := HA.out
      clear HA
      simp only [bits_Little.l0] at H
      by_cases c11 : x25_2 < a1
      ·rw [if_pos c11] at H
       have c11b0 : decide (x25_2 < a1) = true := decide_eq_true c11
       clear c11
       by_cases c12 : x6_2.length < 140737488355328
       ·rw [if_pos c12] at H
        have LMc12 := Aside0.mk c12
        clear c12
        obtain ⟨y229, hy229⟩ : ∃ y_ : List Int, y_ = (x6_2 ++ [(x0_2) % 256]) := ⟨_, rfl⟩
        replace H : (bits_Little.l0 k2 (x0_2 / 256) y229 a1 (wrap64 (x25_2 + 1))) = some (r1, r2) := by first | (rw [hy229]; with_reducible exact H) | (have H2_ := (Option.bind_some _ _).symm.trans H; rw [hy229]; with_reducible exact H2_) | (have H2_ := (Option.bind_some _ _).symm.trans H; with_reducible exact H2_) | with_reducible exact H | (rw [hy229]; exact H) | exact H
        have Ny229 := Aside0.mk hy229
        clear hy229
        have H' := Aside0.mk H
        clear H
        go_wp2_with (first | ((with_reducible refine gate_builtin (b := .append) (xs := #[.tmp 27, .tmp 30]) rfl ?_); at_builtin; refine Kd.R_append (Kd.int .u8) (w0 := w) w.heap.size rfl (.tmp 27) (.tmp 30) 22 5 (.int .u8 0) 1 rfl Try.underlying22 info5 rfl (by decide) (by omega) u6 x6_2 ((x0_2) % 256) [.int .u8 ((x0_2) % 256)] (fun _ => True) (fun _ => False) rfl rfl ?aP (fun _ hk => hk.elim) ?aF ?aO ?aB ?aS ?aL ?_; (case aP => exact rfl); (case aB => exact (by repeat (first | (with_reducible first | exact HB.out | apply below_alloc | apply pw_below_drewN | apply below_drew1) | exact HB.out))); (case aF => exact (fun _ _ => trivial)); (case aO => exact (by (with_reducible repeat (first | apply Kd.R_alloc | apply Kd.R_drewN | apply Kd.R_drew)); exact HO_6.out)); (case aS => exact (below_size (by repeat (first | (with_reducible first | exact HB.out | apply below_alloc | apply pw_below_drewN | apply below_drew1) | exact HB.out)))); (case aL => have := LMc12.out; omega); intro v230 w13 ho hb hg hat; rw [← Ny229.out] at ho; have n0_ := Aside0.mk (hb); have n1_ := Aside0.mk (ho); clear HB; clear HO_6; have HB := n0_; have HO231 := n1_; clear n0_ n1_; clear ho hb hg hat))
        go_roundg k2
        case measure => have := HJ2.out; have := HK2.out; omega
        case rel => exact ⟨(x0_2 / 256), (y229), (wrap64 (x25_2 + 1)), (by first | rfl | (simp; done) | (simp [*]; done)), (by first | rfl | (simp; done) | (simp [*]; done)), H', ⟨by have := HJ2.out; have := HK2.out; omega⟩, ⟨by (with_reducible repeat (first | apply Kd.R_alloc | apply Kd.R_drewN | apply Kd.R_drew)); exact HO231.out⟩, ⟨by repeat (first | (with_reducible first | exact HB.out | apply below_alloc | apply pw_below_drewN | apply below_drew1) | exact HB.out)⟩⟩
       ·rw [if_neg c12] at H
        exact absurd H (by simp)
      ·rw [if_neg c11] at H
       have c11b0 : decide (x25_2 < a1) = false := decide_eq_false c11
       clear c11
       simp only [Option.some.injEq, Prod.mk.injEq] at H
       obtain ⟨rfl, rfl⟩ := H
       go_wp2
       go_ret2
       exact ⟨_, by first | rfl | (simp [errW_none, errW_some] <;> rfl) | (simp [*, errW_none, errW_some] <;> rfl), by (with_reducible repeat (first | apply Kd.R_alloc | apply Kd.R_drewN | apply Kd.R_drew)); exact HO_6.out, by repeat (first | (with_reducible first | exact HB.out | apply below_alloc | apply pw_below_drewN | apply below_drew1) | exact HB.out)⟩
end Go.Proofs.Ytcklkngljapecaa.X
end

section
namespace Go.Proofs.Ytcklkngljapecaa.X
open Go.RowKit Go.Proofs.YtcklkngljapecaaW.PrintWords Go.Proofs.YtcklkngljapecaaW.PrintLast Go.Proofs.YtcklkngljapecaaW.PrintMore
section
variable {ops : Array Oper} {o : Oper} {a : Act} {Q : Exit → Act → World → Prop} {K : Act → World → Prop} {E : Prop} {W : World}
set_option maxRecDepth 100000 in
theorem step_row (hgd : o.guard = none) (s x : Operand) (ho : o.op = .call { callee := .builtin .append, args := #[s, x], argTypes := #[22, 22] }) (base : Nat) (v : Value) (xs ys : List Int) (ad : Addr) (c : Nat) (hs : a.eval s = v) (hx : a.eval x = .slice (some ad) ys.length c)
    (HO : W.ownsRow base 5 1 v xs.length (nums .u8 xs)) (HC : Kd.C (Kd.int .u8) W (some ad) ys.length ys) (hp : 0 < ys.length) (hbase : base ≤ W.heap.size) (hl : xs.length + ys.length ≤ 140737488355328)
    (h : ∀ v1 w1, w1.ownsRow base 5 1 v1 (xs ++ ys).length (nums .u8 (xs ++ ys)) → W.grownBy w1 v.ownBlock → K (a.put o.dst v1) w1) :
    if Region.wanted o (yielded ops a.tmps) = true then Oper.wp Try.prog o a W K Q else E := by
  have hw : Region.wanted o (yielded ops a.tmps) = true := by simp [Region.wanted, hgd]
  rw [if_pos hw]
  obtain ⟨i0, hi, hzz⟩ := Option.map_eq_some_iff.1 info5
  simp only [Prod.mk.injEq] at hzz
  obtain ⟨hz0, hz1, hz2⟩ := hzz
  have hn : (nums .u8 ys).length = ys.length * 1 := by simp [nums]
  obtain ⟨v1, w1, hr, hown, hg, _⟩ := run_append_own_at (P := Try.prog) W base 22 o.type 5 i0 (.int .u8 0) 1 1 Try.underlying22 hi hz0 hz1 hz2 rfl (by decide) v xs.length (nums .u8 xs) HO ad ys.length c (nums .u8 ys) hn
    (fun j u hj => by
      have hjl : j < ys.length := by
        have := (List.getElem?_eq_some_iff.1 hj).1
        rw [hn] at this; omega
      have hR := Kd.reads_of_C (enc := Value.int .u8) (d := (0 : Int)) (h1 := fun _ => rfl) HC
      obtain ⟨ad', e', hc⟩ := hR.2.2 hp
      injection e' with e'
      subst e'
      rw [hc j hjl]
      unfold nums at hj
      rw [List.getElem?_map, List.getElem?_eq_getElem hjl] at hj
      simp at hj
      subst hj
      simp [List.getD_eq_getElem?_getD, List.getElem?_eq_getElem hjl]) (fun u hu => by
      obtain ⟨y, _, rfl⟩ := List.mem_map.1 (by unfold nums at hu; exact hu)
      rfl) (by simp only [maxLen]; omega) (by omega) hbase
  unfold Oper.wp execOp
  simp only [ho, resolve, invoke, builtin, Sem.run_bind, Sem.run_pure, Result.andThen_ok, List.map_toArray, List.map_cons, List.map_nil, hs, hx, hr]
  refine h v1 w1 ?_ hg
  rw [List.length_append, show nums .u8 (xs ++ ys) = nums .u8 xs ++ nums .u8 ys by simp [nums]]
  exact hown
set_option maxRecDepth 100000 in
theorem step_str (hgd : o.guard = none) (s x : Operand) (ho : o.op = .call { callee := .builtin .append, args := #[s, x], argTypes := #[22, 9] }) (base : Nat) (v : Value) (xs : List Int) (y : ByteArray) (hs : a.eval s = v) (hx : a.eval x = .string y)
    (HO : W.ownsRow base 5 1 v xs.length (nums .u8 xs)) (hbase : base ≤ W.heap.size) (hl : xs.length + y.size ≤ 140737488355328)
    (h : ∀ v1 w1, w1.ownsRow base 5 1 v1 (xs ++ bytesOf y).length (nums .u8 (xs ++ bytesOf y)) → W.grownBy w1 v.ownBlock → K (a.put o.dst v1) w1) :
    if Region.wanted o (yielded ops a.tmps) = true then Oper.wp Try.prog o a W K Q else E := by
  have hw : Region.wanted o (yielded ops a.tmps) = true := by simp [Region.wanted, hgd]
  rw [if_pos hw]
  obtain ⟨i0, hi, hzz⟩ := Option.map_eq_some_iff.1 info5
  simp only [Prod.mk.injEq] at hzz
  obtain ⟨hz0, hz1, hz2⟩ := hzz
  obtain ⟨v1, w1, hr, hown, hg, _⟩ := Lib.run_append_own_string (P := Try.prog) W base 22 9 o.type 5 i0 Try.underlying22 Try.underlying9 hi hz0 hz1 hz2 v xs.length (nums .u8 xs) HO y (by simp only [maxLen]; omega) hl hbase
  unfold Oper.wp execOp
  simp only [ho, resolve, invoke, builtin, Sem.run_bind, Sem.run_pure, Result.andThen_ok, List.map_toArray, List.map_cons, List.map_nil, hs, hx, hr]
  refine h v1 w1 ?_ hg
  have hl2 : (xs ++ bytesOf y).length = xs.length + y.size := by rw [List.length_append, bytesOf_length]
  have hc : nums .u8 (xs ++ bytesOf y) = nums .u8 xs ++ Lib.strCells y := by
    rw [nums_append]
    congr 1
    simp [nums, bytesOf, Lib.strCells]
  rw [hl2, hc]
  exact hown
end
end Go.Proofs.Ytcklkngljapecaa.X
end

section
namespace Go.Proofs.Ytcklkngljapecaa.X
open Go.RowKit Go.Proofs.YtcklkngljapecaaW.PrintWords Go.Proofs.YtcklkngljapecaaW.PrintLast Go.Proofs.YtcklkngljapecaaW.PrintMore
attribute [local go_sem] max2_int min2_int max_two min_two max_three min_three max_four min_four
set_option linter.unusedVariables false
set_option linter.unusedSimpArgs false
theorem wr_fixed (x : S30) (base : Nat) (v : Value) (xs : List Int) (w0 w : World) (HO0 : Kd.R (Kd.int .u8) 5 w base (fun _ => True) v xs) (HB0 : Below base w0 w) (hbase : base ≤ w.heap.size) (hl : xs.length + x.f2.size ≤ 140737488355328) :
  Calls Try.prog 58 #[v, .agg #[.int .i64 x.f0, .int .i64 x.f1, .string x.f2]] w fun e w' => ∃ v', e = .returned v' ∧ Kd.R (Kd.int .u8) 5 w' base (fun _ => True) v' (xs ++ bytesOf x.f2) ∧ Below base w0 w' := by
 have hu30 := Try.underlying30
 have HO := Aside0.mk HO0
 have HB := Aside0.mk HB0
 have HS := Aside0.mk hbase
 have HL := Aside0.mk hl
 clear HO0 HB0 hbase hl
 go_enter Try.func58, Try.ntmps58
 go_wp2_with (first | (at_builtin; refine print_append_str (w0 := w0) base rfl (.tmp 5) (.tmp 7) 22 9 5 rfl Try.underlying22 Try.underlying9 info5 v xs x.f2 rfl rfl (Kd.own_of_R (Kd.R_alloc HO.out _)) (HB.out.alloc HS.out _) (by have := HS.out; simp; omega) HL.out ?_; intro v1 w1 ho hb hg; have HO1 := Aside0.mk ho; have HB1 := Aside0.mk hb; clear ho hb hg))
 go_ret
 exact ⟨_, rfl, Kd.R_of_own HO1.out (fun _ _ => trivial), HB1.out⟩
def wrN (m n : Int) : Int := if m = 4 then Go.bits .and .u64 (IntKind.u64.wrap n) 4294967295 else IntKind.u64.wrap n
set_option maxRecDepth 100000 in
set_option maxHeartbeats 4000000 in
theorem wr_whole (F : Nat) (x : S30) (m : Int) (g : Nat) (ys : List Int) (e0 : Int) (base : Nat) (v : Value) (xs : List Int) (w0 w : World) (HO0 : Kd.R (Kd.int .u8) 5 w base (fun _ => True) v xs) (HB0 : Below base w0 w) (hbase : base ≤ w.heap.size) (hl : xs.length + ys.length ≤ 140737488355328)
  (hg : w.heap[g]? = some (.cells #[.int .i64 m] 3 (0, 0))) (h : bits_Little.f F (wrN m x.f1) m = some (ys, e0)) :
  Calls Try.prog 49 #[v, .agg #[.int .i64 x.f0, .int .i64 x.f1, .string x.f2], .pointer (some ⟨g, 0, none⟩)] w fun e w' => ∃ v', e = .returned v' ∧ Kd.R (Kd.int .u8) 5 w' base (fun _ => True) v' (xs ++ ys) ∧ Below base w0 w' := by
 have hu30 := Try.underlying30
 have y0 := (blk_cell hg 0).trans rfl
 have hlt := blk_lt hg
 have hne : g ≠ w.heap.size := by omega
 have hne2 : w.heap.size ≠ g := by omega
 have HO := Aside0.mk HO0
 have HB := Aside0.mk HB0
 have HS := Aside0.mk hbase
 have HL := Aside0.mk hl
 have HLIT := Aside0.mk (fun W => bits_Little.calls F (wrN m x.f1) m ys e0 W h)
 have HBr := Aside0.mk (Below.refl w.heap.size w)
 clear HO0 HB0 hbase hl h
 by_cases c : m = 4
 ·subst c
  unfold wrN at HLIT
  rw [if_pos rfl] at HLIT
  go_enter Try.func49, Try.ntmps49
  go_wp2_with fail
  refine (HLIT.out _).mono ?_
  rintro e W1 ⟨v0, rfl, hv, hb⟩
  obtain ⟨A1, c1, rfl, hc1, hC⟩ := Kd.R_reads hv
  have HBw := Aside0.mk (below_step (below_alloc HBr.out _) hb)
  have HO1 := Aside0.mk (Kd.R_below HO.out HBw.out)
  have HB1 := Aside0.mk (below_then HB.out HS.out HBw.out)
  have HC1 := Aside0.mk hC
  have HS1 := Aside0.mk (Nat.le_trans HS.out HBw.out.size)
  clear hv hb hC HO HB HLIT HBr
  go_wp2_with (first | (at_builtin; refine Kd.R_append_row (Value.int .u8) 0 (h1 := fun _ => rfl) (w0 := w0) base rfl (.tmp 22) (.tmp 23) 22 5 (.int .u8 0) 1 rfl Try.underlying22 info5 rfl (by decide) v xs ys A1 ys.length c1 (fun _ => True) rfl rfl (fun _ _ => trivial) HO1.out HC1.out HB1.out HS1.out (by have := HL.out; omega) ?_; intro v1 w1 ho hb hg hat; have HO2 := Aside0.mk ho; have HB2 := Aside0.mk hb; clear ho hb hg hat))
  go_ret
  exact ⟨_, rfl, HO2.out, HB2.out⟩
 ·have d1 : (m == 4) = false := beq_eq_false_iff_ne.2 c
  unfold wrN at HLIT
  rw [if_neg c] at HLIT
  go_enter Try.func49, Try.ntmps49
  go_wp2_with fail
  refine (HLIT.out _).mono ?_
  rintro e W1 ⟨v0, rfl, hv, hb⟩
  obtain ⟨A1, c1, rfl, hc1, hC⟩ := Kd.R_reads hv
  have HBw := Aside0.mk (below_step (below_alloc HBr.out _) hb)
  have HO1 := Aside0.mk (Kd.R_below HO.out HBw.out)
  have HB1 := Aside0.mk (below_then HB.out HS.out HBw.out)
  have HC1 := Aside0.mk hC
  have HS1 := Aside0.mk (Nat.le_trans HS.out HBw.out.size)
  clear hv hb hC HO HB HLIT HBr
  go_wp2_with (first | (at_builtin; refine Kd.R_append_row (Value.int .u8) 0 (h1 := fun _ => rfl) (w0 := w0) base rfl (.tmp 22) (.tmp 23) 22 5 (.int .u8 0) 1 rfl Try.underlying22 info5 rfl (by decide) v xs ys A1 ys.length c1 (fun _ => True) rfl rfl (fun _ _ => trivial) HO1.out HC1.out HB1.out HS1.out (by have := HL.out; omega) ?_; intro v1 w1 ho hb hg hat; have HO2 := Aside0.mk ho; have HB2 := Aside0.mk hb; clear ho hb hg hat))
  go_ret
  exact ⟨_, rfl, HO2.out, HB2.out⟩
set_option maxRecDepth 100000 in
set_option maxHeartbeats 8000000 in
theorem wr_long (F : Nat) (x : S30) (ys : List Int) (e0 : Int) (base : Nat) (v : Value) (xs : List Int) (w0 w : World) (HO0 : Kd.R (Kd.int .u8) 5 w base (fun _ => True) v xs) (HB0 : Below base w0 w) (hbase : base ≤ w.heap.size) (hl : xs.length + ys.length + x.f2.size ≤ 140737488355328) (hp : 0 < ys.length)
  (h : bits_Little.f F (IntKind.u64.wrap (x.f2.size : Int)) 4 = some (ys, e0)) :
  Calls Try.prog 54 #[v, .agg #[.int .i64 x.f0, .int .i64 x.f1, .string x.f2]] w fun e w' => ∃ v', e = .returned v' ∧ Kd.R (Kd.int .u8) 5 w' base (fun _ => True) v' (xs ++ ys ++ bytesOf x.f2) ∧ Below base w0 w' := by
 have hu30 := Try.underlying30
 have HO := Aside0.mk HO0
 have HB := Aside0.mk HB0
 have HS := Aside0.mk hbase
 have HL := Aside0.mk hl
 have HLIT := Aside0.mk (fun W => bits_Little.calls F (IntKind.u64.wrap (x.f2.size : Int)) 4 ys e0 W h)
 have HBr := Aside0.mk (Below.refl w.heap.size w)
 have HBX := Aside0.mk (blk_new w (Obj.cells #[Value.int IntKind.i64 x.f0, Value.int IntKind.i64 x.f1, Value.string x.f2] 30))
 clear HO0 HB0 hbase hl h
 go_enter Try.func54, Try.ntmps54
 go_wp2_with fail
 refine (HLIT.out _).mono ?_
 rintro e W1 ⟨v0, rfl, hv, hb⟩
 have HBX1 := Aside0.mk (blk_below HBX.out hb)
 obtain ⟨A1, c1, rfl, hc1, hC⟩ := Kd.R_reads hv
 obtain ⟨ad, rfl, _⟩ := hC.2.2 hp
 have HBw := Aside0.mk (below_step (below_alloc HBr.out _) hb)
 have HO1 := Aside0.mk (Kd.R_below HO.out HBw.out)
 have HB1 := Aside0.mk (below_then HB.out HS.out HBw.out)
 have HC1 := Aside0.mk hC
 have HS1 := Aside0.mk (Nat.le_trans HS.out HBw.out.size)
 have hx2 : W1.cell? ⟨w.heap.size, 2, none⟩ = some (.string x.f2) := (blk_cell HBX1.out 2).trans rfl
 have hno : some w.heap.size ≠ v.ownBlock := Kd.R_ne HO1.out HBX1.out (by decide)
 clear hb hC HO HB HLIT HBr HBX
 go_upto_region 2 with fail
 go_region_held3 (fun w' => w'.cell? ⟨w.heap.size, 2, none⟩ = some (.string x.f2)) (first | go_keep | exact (blk_cell HX1 2).trans rfl | exact (blk_cell HX2 2).trans rfl)
  (first
   | (refine step_row rfl (.tmp 15) (.tmp 16) (by rfl) base v xs ys ad c1 (by rfl) (by rfl) (Kd.own_of_R HO1.out) HC1.out hp HS1.out (by have := HL.out; omega) ?_; intro v1 w1 ho1 hg1; have HX1 := blk_grown (blk_drew HBX1.out) hg1 hno)
   | (refine step_str rfl (.tmp 17) (.tmp 19) (by rfl) base v1 (xs ++ ys) x.f2 (by rfl) (by rfl) ho1 (Nat.le_trans HS1.out hg1.size) (by have := HL.out; simp; omega) ?_; intro v2 w2 ho2 hg2; have HX2 := blk_grown HX1 hg2 (own_ne ho1 HX1 (by decide))))
 all_goals go_wp2
 all_goals go_ret
 all_goals exact ⟨_, rfl, Kd.R_of_own ho2 (fun _ _ => trivial), ((HB1.out.drew).grown hg1 HS1.out (own_base (Kd.own_of_R HO1.out))).grown hg2 (Nat.le_trans HS1.out hg1.size) (own_base ho1)⟩
def wrBy (F : Nat) (k : Int) (x : S30) : Option (List Int) := if k = 6 then (bits_Little.f F (IntKind.u64.wrap (x.f2.size : Int)) 4).bind fun p => if 0 < p.1.length then some (p.1 ++ bytesOf x.f2) else none
 else if k = 7 then some (bytesOf x.f2) else (bits_Little.f F (wrN (wide k) x.f1) (wide k)).bind fun p => some p.1
def wrGo (F : Nat) (k : Int) : List S30 → List Int → Option (List Int)
 | [], acc => some acc
 | x :: l, acc => (wrBy F k x).bind fun ys => if acc.length + ys.length ≤ 140737488355328 then wrGo F k l (acc ++ ys) else none
def plain_Write.f (F : Nat) (k s : Int) (l : List S30) : Option (List Int × Int) := (plain_Size.f k s l).bind fun p => if p.2 ≠ 0 then some ([], p.2) else if k = 0 then (if l.length < 1000000 then bits_Pack.f F 1 (l.map fun x => IntKind.u64.wrap x.f1) else none)
 else if k = 1 ∨ k = 2 ∨ k = 4 ∨ k = 5 ∨ k = 6 ∨ k = 7 then (wrGo F k l []).bind fun r => some (r, 0) else none
theorem wrBy_mono (k : Int) (x : S30) (F : Nat) : LeO (wrBy F k x) (wrBy (F + 1) k x) := by
 unfold wrBy
 exact LeO.ite (LeO.bind (bits_Little.mono _ _ _) (fun _ => LeO.refl _)) (LeO.ite (LeO.refl _) (LeO.bind (bits_Little.mono _ _ _) (fun _ => LeO.refl _)))
theorem wrGo_mono (k : Int) (F : Nat) : ∀ (l : List S30) (acc : List Int), LeO (wrGo F k l acc) (wrGo (F + 1) k l acc)
 | [], _ => LeO.refl _
 | x :: l, acc => by
  unfold wrGo
  exact LeO.bind (wrBy_mono _ _ _) (fun _ => LeO.ite (wrGo_mono k F l _) (LeO.refl _))
theorem plain_Write.mono : ∀ k s l F, LeO (plain_Write.f F k s l) (plain_Write.f (F + 1) k s l) := by
 intro k s l F
 unfold plain_Write.f
 exact LeO.bind (LeO.refl _) (fun _ => LeO.ite (LeO.refl _) (LeO.ite (LeO.ite (bits_Pack.mono _ _ _) (LeO.refl _)) (LeO.ite (LeO.bind (wrGo_mono _ _ _ _) (fun _ => LeO.refl _)) (LeO.refl _))))
theorem wr_world {W1 : World} {t : TypeId} (cs : Array Value) : ∃ W0, W0 = W1.alloc (.cells cs t) ∧ W0.heap[W1.heap.size]? = some (.cells cs t (0, 0)) ∧ Below W1.heap.size W1 W0 := ⟨_, rfl, blk_new _ _, below_alloc (Below.refl _ _) _⟩
set_option maxRecDepth 100000 in
set_option maxHeartbeats 16000000 in
theorem wr_W (F : Nat) (A1 : Option Addr) (c1 : Nat) (l1 : List S30) (k s n0 : Int) (r1 : List Int) (w : World) (hr1 : Kd.C k30 w A1 l1.length l1) (hc1 : l1.length ≤ c1) (hl : l1.length < 1000000) (hsz : plain_Size.f k s l1 = some (n0, 0)) (hkind : k = 1 ∨ k = 4 ∨ k = 2 ∨ k = 5) (h : wrGo F k l1 [] = some r1) :
  Calls Try.prog 14 #[.agg #[.int .i64 k, .int .i64 s], .slice A1 l1.length c1] w fun e w' => ∃ v0_ : Value, e = .returned (.tuple #[v0_, .int .i64 0]) ∧ Kd.R (Kd.int .u8) 5 w' w.heap.size (fun _ => True) v0_ r1 ∧ Below w.heap.size w w' := by
 have hu25 := Try.underlying25
 have hu30 := Try.underlying30
 have hu62 := Try.underlying62
 have HR := Aside0.mk hr1
 have HSZ := fun W hr => plain_Size.calls k s A1 c1 l1 n0 0 W hr hc1 hsz
 have HB0 := Aside0.mk (Below.refl w.heap.size w)
 have HBX := Aside0.mk (blk_new w (Obj.cells #[Value.int IntKind.i64 k, Value.int IntKind.i64 s] 25))
 have d0 : (k == 0) = false := beq_eq_false_iff_ne.2 (by rcases hkind with rfl | rfl | rfl | rfl <;> decide)
 have HWAY := fun W => ways_calls k s (by rcases hkind with h | h | h | h <;> simp [h]) W
 have HK := Aside0.mk hkind
 have H := Aside0.mk h
 clear h hr1 hsz hkind
 go_enter Try.func14, Try.ntmps14
 go_wp2_with fail
 refine (HSZ _ (Kd.C_alloc HR.out _)).mono ?_
 rintro e W1 ⟨rfl, hb⟩
 have HX1 := Aside0.mk (blk_below HBX.out hb)
 have x0 := (blk_cell HX1.out 0).trans rfl
 have x1 := (blk_cell HX1.out 1).trans rfl
 have HB1 := Aside0.mk (below_step (below_alloc HB0.out _) hb)
 clear hb HSZ HBX
 go_wp2_with fail
 refine (HWAY _).mono ?_
 rintro e W2 ⟨v, rfl, hw, hb⟩
 have HB2 := Aside0.mk (below_step HB1.out hb)
 obtain ⟨gb, gk, rfl, G1⟩ := wayR_W HK.out hw
 clear hb x0 x1 HB1 hw HX1
 go_wp2
 obtain ⟨W0, hW0, hgw, hb⟩ := wr_world (W1 := W2) (t := 62) #[.func (.func 48) #[] #[.pointer (some ⟨gb, 0, none⟩)], .func (.func 49) #[] #[.pointer (some ⟨gb, 0, none⟩)], .func (.func 51) #[] #[.pointer (some ⟨gb, 0, none⟩), .pointer (some ⟨gk, 0, none⟩)]]
 rw [← hW0]
 clear hW0
 obtain ⟨gw, hgwe⟩ : ∃ gw, gw = W2.heap.size := ⟨_, rfl⟩
 rw [← hgwe] at hgw ⊢
 have HGW := Aside0.mk hgw
 have HBW := Aside0.mk (below_step HB2.out hb)
 have K1 := Aside0.mk (blk_below G1.out hb)
 clear G1
 have HRW := Aside0.mk (Kd.C_below HR.out HBW.out)
 clear hgw hb HB2 HR hgwe HWAY
 go_loopw [11, 48] (fun v11 v48 wr => ∃ (i : Nat) (acc : List Int), v48 = .int .i64 (i : Int) ∧ i ≤ l1.length ∧ Aside0 (wrGo F k (l1.drop i) acc = some r1) ∧ Aside0 (Kd.R (Kd.int .u8) 5 wr W0.heap.size (fun _ => True) v11 acc) ∧ Aside0 (Below W0.heap.size W0 wr))
  (fun _ i _ => l1.length - (intOf i).toNat)
 case atStart => exact ⟨0, [], rfl, Nat.zero_le _, by simpa using H, ⟨Kd.R_nil _ _ _ _ _⟩, ⟨Below.refl _ _⟩⟩
 case round =>
  obtain ⟨i, acc, rfl, hi, HA, HO, HB⟩ := hrel
  clear H
  by_cases ci : i < l1.length
  ·have q1 : decide ((i : Int) < (l1.length : Int)) = true := decide_eq_true (by omega)
   have hA := HA.out
   rw [sz_drop ci, wrGo] at hA
   obtain ⟨ys, hys, hA⟩ := Option.bind_eq_some_iff.1 hA
   obtain ⟨ad, e1, hx0, hx1, hx2⟩ := at_T30 (Kd.C_below HRW.out HB.out) (i : Int) (by omega) (by omega)
   obtain ⟨x, hx⟩ : ∃ x, x = rd_T30 l1 (i : Int) := ⟨_, rfl⟩
   rw [← hx] at hx0 hx1 hx2 hys
   cases e1
   rw [show ((i : Int)).toNat = i from rfl] at hx0 hx1 hx2
   have p1 : (0 ≤ (i : Int)) = True := eq_true (by omega)
   have q2 : ((i : Int) < (l1.length : Int)) = True := eq_true (by omega)
   by_cases cl : acc.length + ys.length ≤ 140737488355328
   ·rw [if_pos cl] at hA
    have HA2 := Aside0.mk hA
    have HY := Aside0.mk hys
    have HLY := Aside0.mk cl
    have HCALL : ∀ W, Below W0.heap.size W0 W → Kd.R (Kd.int .u8) 5 W W0.heap.size (fun _ => True) u11 acc → Calls Try.prog 49 #[u11, .agg #[.int .i64 x.f0, .int .i64 x.f1, .string x.f2], .pointer (some ⟨gb, 0, none⟩)] W fun e w' => ∃ v', e = .returned v' ∧ Kd.R (Kd.int .u8) 5 w' W0.heap.size (fun _ => True) v' (acc ++ ys) ∧ Below W0.heap.size W0 w' := fun W hW hO => by
     have h := HY.out
     unfold wrBy at h
     rw [if_neg (by have := HK.out; omega), if_neg (by have := HK.out; omega)] at h
     obtain ⟨⟨ys', e0⟩, hlit, h⟩ := Option.bind_eq_some_iff.1 h
     obtain rfl : ys' = ys := Option.some.inj h
     exact wr_whole F x (wide k) gb ys' e0 W0.heap.size u11 acc W0 W hO hW hW.size HLY.out (blk_below K1.out hW) hlit
    have hw1 : wr.cell? ⟨gw, 1, none⟩ = some (.func (.func 49) #[] #[.pointer (some ⟨gb, 0, none⟩)]) := (blk_cell (blk_below HGW.out HB.out) 1).trans rfl
    have hlw : gw < wr.heap.size := World.block_lt_of_cell? wr ⟨gw, 1, none⟩ hw1
    have hnw1 : gw ≠ wr.heap.size := by omega
    have hnw2 : wr.heap.size ≠ gw := by omega
    clear hA hys cl hx
    go_wp2_with fail
    refine (HCALL _ (below_alloc HB.out _) (Kd.R_alloc HO.out _)).mono ?_
    rintro e W5 ⟨v', rfl, hO5, hB5⟩
    have HO5 := Aside0.mk hO5
    have HB5 := Aside0.mk hB5
    clear hO5 hB5 HO HB HCALL
    go_wp2
    go_roundw
    case rel => exact ⟨i + 1, acc ++ ys, by go_num, by omega, HA2, HO5, HB5⟩
    case measure => simp [intOf]; omega
   ·rw [if_neg cl] at hA; cases hA
  ·have q1 : decide ((i : Int) < (l1.length : Int)) = false := decide_eq_false (by omega)
   have hA := HA.out
   rw [List.drop_eq_nil_of_le (by omega), wrGo] at hA
   have hA := Option.some.inj hA
   subst hA
   go_wp2
   go_ret2
   exact ⟨_, rfl, Kd.R_lower HO.out HBW.out.size, below_step HBW.out HB.out⟩
set_option maxRecDepth 100000 in
set_option maxHeartbeats 16000000 in
theorem wr_L (F : Nat) (A1 : Option Addr) (c1 : Nat) (l1 : List S30) (k s n0 : Int) (r1 : List Int) (w : World) (hr1 : Kd.C k30 w A1 l1.length l1) (hc1 : l1.length ≤ c1) (hl : l1.length < 1000000) (hsz : plain_Size.f k s l1 = some (n0, 0)) (hkind : k = 6) (h : wrGo F k l1 [] = some r1) :
  Calls Try.prog 14 #[.agg #[.int .i64 k, .int .i64 s], .slice A1 l1.length c1] w fun e w' => ∃ v0_ : Value, e = .returned (.tuple #[v0_, .int .i64 0]) ∧ Kd.R (Kd.int .u8) 5 w' w.heap.size (fun _ => True) v0_ r1 ∧ Below w.heap.size w w' := by
 have hu25 := Try.underlying25
 have hu30 := Try.underlying30
 have hu62 := Try.underlying62
 have HR := Aside0.mk hr1
 have HSZ := fun W hr => plain_Size.calls k s A1 c1 l1 n0 0 W hr hc1 hsz
 have HB0 := Aside0.mk (Below.refl w.heap.size w)
 have HBX := Aside0.mk (blk_new w (Obj.cells #[Value.int IntKind.i64 k, Value.int IntKind.i64 s] 25))
 have d0 : (k == 0) = false := beq_eq_false_iff_ne.2 (by subst hkind; decide)
 have HWAY := fun W => ways_calls k s (by simp [hkind]) W
 have HK := Aside0.mk hkind
 have H := Aside0.mk h
 clear h hr1 hsz hkind
 go_enter Try.func14, Try.ntmps14
 go_wp2_with fail
 refine (HSZ _ (Kd.C_alloc HR.out _)).mono ?_
 rintro e W1 ⟨rfl, hb⟩
 have HX1 := Aside0.mk (blk_below HBX.out hb)
 have x0 := (blk_cell HX1.out 0).trans rfl
 have x1 := (blk_cell HX1.out 1).trans rfl
 have HB1 := Aside0.mk (below_step (below_alloc HB0.out _) hb)
 clear hb HSZ HBX
 go_wp2_with fail
 refine (HWAY _).mono ?_
 rintro e W2 ⟨v, rfl, hw, hb⟩
 have HB2 := Aside0.mk (below_step HB1.out hb)
 obtain rfl := wayR_L HK.out hw
 clear hb x0 x1 HB1 hw HX1
 go_wp2
 obtain ⟨W0, hW0, hgw, hb⟩ := wr_world (W1 := W2) (t := 62) #[.func (.func 53) #[] #[], .func (.func 54) #[] #[], .func (.func 55) #[] #[]]
 rw [← hW0]
 clear hW0
 obtain ⟨gw, hgwe⟩ : ∃ gw, gw = W2.heap.size := ⟨_, rfl⟩
 rw [← hgwe] at hgw ⊢
 have HGW := Aside0.mk hgw
 have HBW := Aside0.mk (below_step HB2.out hb)
 skip
 have HRW := Aside0.mk (Kd.C_below HR.out HBW.out)
 clear hgw hb HB2 HR hgwe HWAY
 go_loopw [11, 48] (fun v11 v48 wr => ∃ (i : Nat) (acc : List Int), v48 = .int .i64 (i : Int) ∧ i ≤ l1.length ∧ Aside0 (wrGo F k (l1.drop i) acc = some r1) ∧ Aside0 (Kd.R (Kd.int .u8) 5 wr W0.heap.size (fun _ => True) v11 acc) ∧ Aside0 (Below W0.heap.size W0 wr))
  (fun _ i _ => l1.length - (intOf i).toNat)
 case atStart => exact ⟨0, [], rfl, Nat.zero_le _, by simpa using H, ⟨Kd.R_nil _ _ _ _ _⟩, ⟨Below.refl _ _⟩⟩
 case round =>
  obtain ⟨i, acc, rfl, hi, HA, HO, HB⟩ := hrel
  clear H
  by_cases ci : i < l1.length
  ·have q1 : decide ((i : Int) < (l1.length : Int)) = true := decide_eq_true (by omega)
   have hA := HA.out
   rw [sz_drop ci, wrGo] at hA
   obtain ⟨ys, hys, hA⟩ := Option.bind_eq_some_iff.1 hA
   obtain ⟨ad, e1, hx0, hx1, hx2⟩ := at_T30 (Kd.C_below HRW.out HB.out) (i : Int) (by omega) (by omega)
   obtain ⟨x, hx⟩ : ∃ x, x = rd_T30 l1 (i : Int) := ⟨_, rfl⟩
   rw [← hx] at hx0 hx1 hx2 hys
   cases e1
   rw [show ((i : Int)).toNat = i from rfl] at hx0 hx1 hx2
   have p1 : (0 ≤ (i : Int)) = True := eq_true (by omega)
   have q2 : ((i : Int) < (l1.length : Int)) = True := eq_true (by omega)
   by_cases cl : acc.length + ys.length ≤ 140737488355328
   ·rw [if_pos cl] at hA
    have HA2 := Aside0.mk hA
    have HY := Aside0.mk hys
    have HLY := Aside0.mk cl
    have HCALL : ∀ W, Below W0.heap.size W0 W → Kd.R (Kd.int .u8) 5 W W0.heap.size (fun _ => True) u11 acc → Calls Try.prog 54 #[u11, .agg #[.int .i64 x.f0, .int .i64 x.f1, .string x.f2]] W fun e w' => ∃ v', e = .returned v' ∧ Kd.R (Kd.int .u8) 5 w' W0.heap.size (fun _ => True) v' (acc ++ ys) ∧ Below W0.heap.size W0 w' := fun W hW hO => by
     have h := HY.out
     unfold wrBy at h
     rw [if_pos HK.out] at h
     obtain ⟨⟨ys', e0⟩, hlit, h⟩ := Option.bind_eq_some_iff.1 h
     by_cases cp : 0 < ys'.length
     ·rw [if_pos cp] at h
      obtain rfl : ys' ++ bytesOf x.f2 = ys := Option.some.inj h
      have hly := HLY.out
      rw [List.length_append, bytesOf_length] at hly
      rw [← List.append_assoc]
      exact wr_long F x ys' e0 W0.heap.size u11 acc W0 W hO hW hW.size (by omega) cp hlit
     ·rw [if_neg cp] at h; cases h
    have hw1 : wr.cell? ⟨gw, 1, none⟩ = some (.func (.func 54) #[] #[]) := (blk_cell (blk_below HGW.out HB.out) 1).trans rfl
    have hlw : gw < wr.heap.size := World.block_lt_of_cell? wr ⟨gw, 1, none⟩ hw1
    have hnw1 : gw ≠ wr.heap.size := by omega
    have hnw2 : wr.heap.size ≠ gw := by omega
    clear hA hys cl hx
    go_wp2_with fail
    refine (HCALL _ (below_alloc HB.out _) (Kd.R_alloc HO.out _)).mono ?_
    rintro e W5 ⟨v', rfl, hO5, hB5⟩
    have HO5 := Aside0.mk hO5
    have HB5 := Aside0.mk hB5
    clear hO5 hB5 HO HB HCALL
    go_wp2
    go_roundw
    case rel => exact ⟨i + 1, acc ++ ys, by go_num, by omega, HA2, HO5, HB5⟩
    case measure => simp [intOf]; omega
   ·rw [if_neg cl] at hA; cases hA
  ·have q1 : decide ((i : Int) < (l1.length : Int)) = false := decide_eq_false (by omega)
   have hA := HA.out
   rw [List.drop_eq_nil_of_le (by omega), wrGo] at hA
   have hA := Option.some.inj hA
   subst hA
   go_wp2
   go_ret2
   exact ⟨_, rfl, Kd.R_lower HO.out HBW.out.size, below_step HBW.out HB.out⟩
set_option maxRecDepth 100000 in
set_option maxHeartbeats 16000000 in
theorem wr_F (F : Nat) (A1 : Option Addr) (c1 : Nat) (l1 : List S30) (k s n0 : Int) (r1 : List Int) (w : World) (hr1 : Kd.C k30 w A1 l1.length l1) (hc1 : l1.length ≤ c1) (hl : l1.length < 1000000) (hsz : plain_Size.f k s l1 = some (n0, 0)) (hkind : k = 7) (h : wrGo F k l1 [] = some r1) :
  Calls Try.prog 14 #[.agg #[.int .i64 k, .int .i64 s], .slice A1 l1.length c1] w fun e w' => ∃ v0_ : Value, e = .returned (.tuple #[v0_, .int .i64 0]) ∧ Kd.R (Kd.int .u8) 5 w' w.heap.size (fun _ => True) v0_ r1 ∧ Below w.heap.size w w' := by
 have hu25 := Try.underlying25
 have hu30 := Try.underlying30
 have hu62 := Try.underlying62
 have HR := Aside0.mk hr1
 have HSZ := fun W hr => plain_Size.calls k s A1 c1 l1 n0 0 W hr hc1 hsz
 have HB0 := Aside0.mk (Below.refl w.heap.size w)
 have HBX := Aside0.mk (blk_new w (Obj.cells #[Value.int IntKind.i64 k, Value.int IntKind.i64 s] 25))
 have d0 : (k == 0) = false := beq_eq_false_iff_ne.2 (by subst hkind; decide)
 have HWAY := fun W => ways_calls k s (by simp [hkind]) W
 have HK := Aside0.mk hkind
 have H := Aside0.mk h
 clear h hr1 hsz hkind
 go_enter Try.func14, Try.ntmps14
 go_wp2_with fail
 refine (HSZ _ (Kd.C_alloc HR.out _)).mono ?_
 rintro e W1 ⟨rfl, hb⟩
 have HX1 := Aside0.mk (blk_below HBX.out hb)
 have x0 := (blk_cell HX1.out 0).trans rfl
 have x1 := (blk_cell HX1.out 1).trans rfl
 have HB1 := Aside0.mk (below_step (below_alloc HB0.out _) hb)
 clear hb HSZ HBX
 go_wp2_with fail
 refine (HWAY _).mono ?_
 rintro e W2 ⟨v, rfl, hw, hb⟩
 have HB2 := Aside0.mk (below_step HB1.out hb)
 obtain ⟨g, rfl, G1⟩ := wayR_F HK.out hw
 clear hb x0 x1 HB1 hw HX1
 go_wp2
 obtain ⟨W0, hW0, hgw, hb⟩ := wr_world (W1 := W2) (t := 62) #[.func (.func 57) #[] #[.pointer (some ⟨g, 0, none⟩)], .func (.func 58) #[] #[], .func (.func 59) #[] #[.pointer (some ⟨g, 0, none⟩)]]
 rw [← hW0]
 clear hW0
 obtain ⟨gw, hgwe⟩ : ∃ gw, gw = W2.heap.size := ⟨_, rfl⟩
 rw [← hgwe] at hgw ⊢
 have HGW := Aside0.mk hgw
 have HBW := Aside0.mk (below_step HB2.out hb)
 have K1 := Aside0.mk (blk_below G1.out hb)
 clear G1
 have HRW := Aside0.mk (Kd.C_below HR.out HBW.out)
 clear hgw hb HB2 HR hgwe HWAY
 go_loopw [11, 48] (fun v11 v48 wr => ∃ (i : Nat) (acc : List Int), v48 = .int .i64 (i : Int) ∧ i ≤ l1.length ∧ Aside0 (wrGo F k (l1.drop i) acc = some r1) ∧ Aside0 (Kd.R (Kd.int .u8) 5 wr W0.heap.size (fun _ => True) v11 acc) ∧ Aside0 (Below W0.heap.size W0 wr))
  (fun _ i _ => l1.length - (intOf i).toNat)
 case atStart => exact ⟨0, [], rfl, Nat.zero_le _, by simpa using H, ⟨Kd.R_nil _ _ _ _ _⟩, ⟨Below.refl _ _⟩⟩
 case round =>
  obtain ⟨i, acc, rfl, hi, HA, HO, HB⟩ := hrel
  clear H
  by_cases ci : i < l1.length
  ·have q1 : decide ((i : Int) < (l1.length : Int)) = true := decide_eq_true (by omega)
   have hA := HA.out
   rw [sz_drop ci, wrGo] at hA
   obtain ⟨ys, hys, hA⟩ := Option.bind_eq_some_iff.1 hA
   obtain ⟨ad, e1, hx0, hx1, hx2⟩ := at_T30 (Kd.C_below HRW.out HB.out) (i : Int) (by omega) (by omega)
   obtain ⟨x, hx⟩ : ∃ x, x = rd_T30 l1 (i : Int) := ⟨_, rfl⟩
   rw [← hx] at hx0 hx1 hx2 hys
   cases e1
   rw [show ((i : Int)).toNat = i from rfl] at hx0 hx1 hx2
   have p1 : (0 ≤ (i : Int)) = True := eq_true (by omega)
   have q2 : ((i : Int) < (l1.length : Int)) = True := eq_true (by omega)
   by_cases cl : acc.length + ys.length ≤ 140737488355328
   ·rw [if_pos cl] at hA
    have HA2 := Aside0.mk hA
    have HY := Aside0.mk hys
    have HLY := Aside0.mk cl
    have HCALL : ∀ W, Below W0.heap.size W0 W → Kd.R (Kd.int .u8) 5 W W0.heap.size (fun _ => True) u11 acc → Calls Try.prog 58 #[u11, .agg #[.int .i64 x.f0, .int .i64 x.f1, .string x.f2]] W fun e w' => ∃ v', e = .returned v' ∧ Kd.R (Kd.int .u8) 5 w' W0.heap.size (fun _ => True) v' (acc ++ ys) ∧ Below W0.heap.size W0 w' := fun W hW hO => by
     have h := HY.out
     unfold wrBy at h
     rw [if_neg (by have := HK.out; omega), if_pos HK.out] at h
     obtain rfl : bytesOf x.f2 = ys := Option.some.inj h
     have hly := HLY.out
     rw [bytesOf_length] at hly
     exact wr_fixed x W0.heap.size u11 acc W0 W hO hW hW.size (by omega)
    have hw1 : wr.cell? ⟨gw, 1, none⟩ = some (.func (.func 58) #[] #[]) := (blk_cell (blk_below HGW.out HB.out) 1).trans rfl
    have hlw : gw < wr.heap.size := World.block_lt_of_cell? wr ⟨gw, 1, none⟩ hw1
    have hnw1 : gw ≠ wr.heap.size := by omega
    have hnw2 : wr.heap.size ≠ gw := by omega
    clear hA hys cl hx
    go_wp2_with fail
    refine (HCALL _ (below_alloc HB.out _) (Kd.R_alloc HO.out _)).mono ?_
    rintro e W5 ⟨v', rfl, hO5, hB5⟩
    have HO5 := Aside0.mk hO5
    have HB5 := Aside0.mk hB5
    clear hO5 hB5 HO HB HCALL
    go_wp2
    go_roundw
    case rel => exact ⟨i + 1, acc ++ ys, by go_num, by omega, HA2, HO5, HB5⟩
    case measure => simp [intOf]; omega
   ·rw [if_neg cl] at hA; cases hA
  ·have q1 : decide ((i : Int) < (l1.length : Int)) = false := decide_eq_false (by omega)
   have hA := HA.out
   rw [List.drop_eq_nil_of_le (by omega), wrGo] at hA
   have hA := Option.some.inj hA
   subst hA
   go_wp2
   go_ret2
   exact ⟨_, rfl, Kd.R_lower HO.out HBW.out.size, below_step HBW.out HB.out⟩
set_option maxRecDepth 100000 in
set_option maxHeartbeats 16000000 in
theorem wr_bool (F : Nat) (A1 : Option Addr) (c1 : Nat) (l1 : List S30) (k s n0 : Int) (r1 : List Int) (r2 : Int) (w : World) (hr1 : Kd.C k30 w A1 l1.length l1) (hc1 : l1.length ≤ c1) (hl : l1.length < 1000000) (hsz : plain_Size.f k s l1 = some (n0, 0)) (hkind : k = 0) (h : bits_Pack.f F 1 (l1.map fun x => IntKind.u64.wrap x.f1) = some (r1, r2)) :
  Calls Try.prog 14 #[.agg #[.int .i64 k, .int .i64 s], .slice A1 l1.length c1] w fun e w' => ∃ v0_ : Value, e = .returned (.tuple #[v0_, .int .i64 r2]) ∧ Kd.R (Kd.int .u8) 5 w' w.heap.size (fun _ => True) v0_ r1 ∧ Below w.heap.size w w' := by
 have hu25 := Try.underlying25
 have hu30 := Try.underlying30
 have hu62 := Try.underlying62
 have HR := Aside0.mk hr1
 have HSZ := fun W hr => plain_Size.calls k s A1 c1 l1 n0 0 W hr hc1 hsz
 have HB0 := Aside0.mk (Below.refl w.heap.size w)
 have HBX := Aside0.mk (blk_new w (Obj.cells #[Value.int IntKind.i64 k, Value.int IntKind.i64 s] 25))
 have d0 : (k == 0) = true := by rw [hkind]; rfl
 have H := Aside0.mk h
 clear h hr1 hsz hkind
 go_enter Try.func14, Try.ntmps14
 go_wp2_with fail
 refine (HSZ _ (Kd.C_alloc HR.out _)).mono ?_
 rintro e W1 ⟨rfl, hb⟩
 have HX1 := Aside0.mk (blk_below HBX.out hb)
 have x0 := (blk_cell HX1.out 0).trans rfl
 have HB1 := Aside0.mk (below_step (below_alloc HB0.out _) hb)
 have HRW := Aside0.mk (Kd.C_below HR.out HB1.out)
 clear hb HSZ HBX HR
 go_wp2
 go_loopw [8, 29] (fun v8 v29 wr => ∃ (i : Nat) (acc : List Int), v29 = .int .i64 (i : Int) ∧ i ≤ l1.length ∧ Aside0 (acc.length = i ∧ acc ++ (l1.drop i).map (fun x => IntKind.u64.wrap x.f1) = l1.map fun x => IntKind.u64.wrap x.f1) ∧ Aside0 (Kd.R (Kd.int .u64) 64 wr W1.heap.size (fun _ => True) v8 acc) ∧ Aside0 (Below W1.heap.size W1 wr))
  (fun _ i _ => l1.length - (intOf i).toNat)
 case atStart => exact ⟨0, [], rfl, Nat.zero_le _, ⟨rfl, by simp⟩, ⟨Kd.R_nil _ _ _ _ _⟩, ⟨Below.refl _ _⟩⟩
 case round =>
  obtain ⟨i, acc, rfl, hi, HA, HO, HB⟩ := hrel
  by_cases ci : i < l1.length
  ·have q1 : decide ((i : Int) < (l1.length : Int)) = true := decide_eq_true (by omega)
   obtain ⟨hal, hA⟩ := HA.out
   rw [sz_drop ci, List.map_cons] at hA
   obtain ⟨ad, e1, hx0, hx1, hx2⟩ := at_T30 (Kd.C_below HRW.out HB.out) (i : Int) (by omega) (by omega)
   obtain ⟨x, hx⟩ : ∃ x, x = rd_T30 l1 (i : Int) := ⟨_, rfl⟩
   rw [← hx] at hx0 hx1 hx2 hA
   cases e1
   rw [show ((i : Int)).toNat = i from rfl] at hx0 hx1 hx2
   have p1 : (0 ≤ (i : Int)) = True := eq_true (by omega)
   have q2 : ((i : Int) < (l1.length : Int)) = True := eq_true (by omega)
   have HA2 := Aside0.mk (show (acc ++ [IntKind.u64.wrap x.f1]).length = i + 1 ∧ (acc ++ [IntKind.u64.wrap x.f1]) ++ (l1.drop (i + 1)).map (fun x => IntKind.u64.wrap x.f1) = l1.map fun x => IntKind.u64.wrap x.f1 from ⟨by simp [hal], by rw [List.append_assoc]; exact hA⟩)
   have HAL := Aside0.mk hal
   have HL := Aside0.mk hl
   clear hA hx HA hal
   go_upto_region 9 with fail
   obtain ⟨W3, hW3, hz3, hb3⟩ := wr_world (W1 := wr) (t := 30) #[Value.int IntKind.i64 x.f0, Value.int IntKind.i64 x.f1, Value.string x.f2]
   rw [← hW3]
   clear hW3
   have z1 := (blk_cell hz3 1).trans rfl
   have HB3 := Aside0.mk (below_then HB.out HB.out.size hb3)
   have HO3 := Aside0.mk (Kd.R_below HO.out hb3)
   clear hz3 hb3 HB HO hx0 hx1 hx2
   go_wp2_with (first | ((with_reducible refine gate_builtin (b := .append) (xs := #[.tmp 33, .tmp 37]) rfl ?_); at_builtin; refine Kd.R_append (Kd.int .u64) (w0 := W1) W1.heap.size rfl (.tmp 33) (.tmp 37) 68 64 (.int .u64 0) 8 rfl Try.underlying68 info64 rfl (by decide) (by omega) u8 acc (IntKind.u64.wrap x.f1) [.int .u64 (IntKind.u64.wrap x.f1)] (fun _ => True) (fun _ => False) rfl rfl ?aP (fun _ hk => hk.elim) ?aF ?aO ?aB ?aS ?aL ?_; (case aP => exact rfl); (case aB => exact (by repeat (first | exact HB3.out | apply below_alloc))); (case aF => exact (fun _ _ => trivial)); (case aO => exact (by (with_reducible repeat (first | apply Kd.R_alloc)); exact HO3.out)); (case aS => exact (below_size (by repeat (first | exact HB3.out | apply below_alloc)))); (case aL => have := HAL.out; have := HL.out; omega); intro v99 w99 ho hb hg hat; have HO9 := Aside0.mk ho; have HB9 := Aside0.mk hb; clear ho hb hg hat))
   go_roundw
   case rel => exact ⟨i + 1, acc ++ [IntKind.u64.wrap x.f1], by go_num, by omega, HA2, HO9, HB9⟩
   case measure => simp [intOf]; omega
  ·have q1 : decide ((i : Int) < (l1.length : Int)) = false := decide_eq_false (by omega)
   obtain ⟨hal, hA⟩ := HA.out
   rw [List.drop_eq_nil_of_le (by omega), List.map_nil, List.append_nil] at hA
   have hH := H.out
   rw [← hA] at hH
   obtain ⟨A2, c2, rfl, hc2, hC2⟩ := Kd.R_reads HO.out
   have HP := Aside0.mk (bits_Pack.calls F 1 A2 c2 acc r1 r2 wr hC2 hc2 hH)
   clear hA hH H hC2 hal HA
   go_wp2_with fail
   refine HP.out.mono ?_
   rintro e W5 ⟨v5, rfl, hR5, hB5⟩
   go_wp2
   go_ret2
   exact ⟨_, rfl, Kd.R_lower hR5 (Nat.le_trans HB1.out.size HB.out.size), below_step (below_step HB1.out HB.out) hB5⟩
set_option maxRecDepth 100000 in
set_option maxHeartbeats 8000000 in
theorem plain_Write.calls (k : Nat) (a0_0 a0_1 : Int) (A1 : Option Addr) (c1 : Nat) (l1 : List S30) (r1 : List Int) (r2 : Int) (w : World) (hr1 : Kd.C k30 w A1 l1.length l1) (hc1 : l1.length ≤ c1) (h : plain_Write.f k a0_0 a0_1 l1 = some (r1, r2)) :
  Calls Try.prog 14 #[.agg #[.int .i64 a0_0, .int .i64 a0_1], .slice A1 l1.length c1] w fun e w' => ∃ v0_ : Value, e = .returned (.tuple #[v0_, .int .i64 r2]) ∧ Kd.R (Kd.int .u8) 5 w' w.heap.size (fun _ => True) v0_ r1 ∧ Below w.heap.size w w' := by
 unfold plain_Write.f at h
 obtain ⟨⟨n, e⟩, hsz, h⟩ := Option.bind_eq_some_iff.1 h
 dsimp only at h
 by_cases c1' : e = 0
 ·subst c1'
  rw [if_neg (by simp)] at h
  have hlen : l1.length < 1000000 := by
   unfold plain_Size.f at hsz
   obtain ⟨e, hask, hsz⟩ := Option.bind_eq_some_iff.1 hsz
   by_cases ce : e = 0
   ·subst ce
    have := asked_len hask
    omega
   ·rw [if_pos ce] at hsz
    exact absurd (congrArg Prod.snd (Option.some.inj hsz)) ce
  by_cases c5 : a0_0 = 0
  ·rw [if_pos c5, if_pos hlen] at h
   exact wr_bool k A1 c1 l1 a0_0 a0_1 n r1 r2 w hr1 hc1 hlen hsz c5 h
  rw [if_neg c5] at h
  by_cases c6 : a0_0 = 1 ∨ a0_0 = 2 ∨ a0_0 = 4 ∨ a0_0 = 5 ∨ a0_0 = 6 ∨ a0_0 = 7
  ·rw [if_pos c6] at h
   obtain ⟨r, hgo, h⟩ := Option.bind_eq_some_iff.1 h
   obtain ⟨rfl, rfl⟩ : r = r1 ∧ (0 : Int) = r2 := by simpa using h
   by_cases k6 : a0_0 = 6
   ·exact wr_L k A1 c1 l1 a0_0 a0_1 n r w hr1 hc1 hlen hsz k6 hgo
   by_cases k7 : a0_0 = 7
   ·exact wr_F k A1 c1 l1 a0_0 a0_1 n r w hr1 hc1 hlen hsz k7 hgo
   exact wr_W k A1 c1 l1 a0_0 a0_1 n r w hr1 hc1 hlen hsz (by omega) hgo
  ·rw [if_neg c6] at h; cases h
 ·rw [if_pos c1'] at h
  have hu25 := Try.underlying25
  have d1 : (e != 0) = true := by simp [bne, c1']
  have HRR := Aside0.mk (show ([] : List Int) = r1 ∧ e = r2 by simpa using h)
  have HR := Aside0.mk hr1
  have HSZ := fun W hr => plain_Size.calls a0_0 a0_1 A1 c1 l1 n e W hr hc1 hsz
  have HB0 := Aside0.mk (Below.refl w.heap.size w)
  clear h hr1 hsz
  go_enter Try.func14, Try.ntmps14
  go_wp2_with fail
  refine (HSZ _ (Kd.C_alloc HR.out _)).mono ?_
  rintro e' W1 ⟨rfl, hb⟩
  have HB1 := Aside0.mk (below_step (below_alloc HB0.out _) hb)
  clear hb HSZ
  go_wp2
  go_ret2
  obtain ⟨rfl, rfl⟩ := HRR.out
  exact ⟨_, rfl, Kd.R_nil _ _ _ _ _, HB1.out⟩
end Go.Proofs.Ytcklkngljapecaa.X
end

section
namespace Go.Proofs.Ytcklkngljapecaa.X
open Go.RowKit Go.Proofs.YtcklkngljapecaaW.PrintWords Go.Proofs.YtcklkngljapecaaW.PrintLast Go.Proofs.YtcklkngljapecaaW.PrintMore
attribute [local go_sem] max2_int min2_int max_two min_two max_three min_three max_four min_four
set_option linter.unusedVariables false
set_option linter.unusedSimpArgs false
mutual
def marquetrylaw10_PlainBack.j0 : Nat → List (S30) → Bool → Int → Int → List Int → Int → Option (Bool)
 | 0, _, _, _, _, _, _ => none
 | k + 1, x1, x23, x210000, x210001, x211000, x211001 => if x23 = true then (some true) else ((plain_Write.f k x210000 x210001 x1).bind fun bt212 => (if bt212.2 = 0 then ((plain_Read.f k bt212.1 x210000 x210001 (x1.length : Int)).bind fun bt216 => (if bt216.2 = 0 then ((marquetryref09_SameAll.f k bt216.1 x1).bind fun t220 => (if t220 = true then (marquetrylaw10_PlainBack.j1 k x210000 x210001 x211000 x211001) else (some false))) else (some false))) else (marquetrylaw10_PlainBack.j1 k x210000 x210001 x211000 x211001)))
def marquetrylaw10_PlainBack.j1 : Nat → Int → Int → List Int → Int → Option (Bool)
 | 0, _, _, _, _ => none
 | k + 1, x210000, x210001, x211000, x211001 => (plain_Read.f k x211000 x210000 x210001 x211001).bind fun bt221 => (if bt221.2 = 0 then ((plain_Write.f k x210000 x210001 bt221.1).bind fun bt225 => (if bt225.2 = 0 then (some ((strOfNums bt225.1).toList == (strOfNums x211000).toList)) else (some false))) else (some ((bt221.1.length : Int) == 0)))
end
def marquetrylaw10_PlainBack.f (k : Nat) (a0_0 : Int) (a0_1 : Int) (l1 : List (S30)) (l2_0 : List Int) (a2_1 : Int) : Option (Bool) := (marquetrylaw10_heavy.f k a0_0 a0_1 l1).bind fun t211 => (if t211 = true then (marquetrylaw10_PlainBack.j0 k l1 true a0_0 a0_1 l2_0 a2_1) else (marquetrylaw10_PlainBack.j0 k l1 (decide ((l2_0.length : Int) > 2000)) a0_0 a0_1 l2_0 a2_1))
theorem marquetrylaw10_PlainBack.mono_l : ∀ k, (∀ y0 y1 y2 y3 y4 y5, LeO (marquetrylaw10_PlainBack.j0 k y0 y1 y2 y3 y4 y5) (marquetrylaw10_PlainBack.j0 (k + 1) y0 y1 y2 y3 y4 y5)) ∧ (∀ y0 y1 y2 y3, LeO (marquetrylaw10_PlainBack.j1 k y0 y1 y2 y3) (marquetrylaw10_PlainBack.j1 (k + 1) y0 y1 y2 y3))
 | 0 => ⟨fun _ _ _ _ _ _ r h => by simp [marquetrylaw10_PlainBack.j0] at h, fun _ _ _ _ r h => by simp [marquetrylaw10_PlainBack.j1] at h⟩
 | k + 1 => by
  obtain ⟨ih0, ih1⟩ := marquetrylaw10_PlainBack.mono_l k
  refine ⟨?_, ?_⟩
  ·intro y0 y1 y2 y3 y4 y5
   unfold marquetrylaw10_PlainBack.j0
   repeat' first
   | (with_reducible exact ih0 _ _ _ _ _ _)
   | (with_reducible exact ih1 _ _ _ _)
   | (with_reducible exact marquetrylaw10_heavy.mono _ _ _ _)
   | (with_reducible exact marquetryref09_SameAll.mono _ _ _)
   | (with_reducible exact plain_Read.mono _ _ _ _ _)
   | (with_reducible exact plain_Write.mono _ _ _ _)
   | (with_reducible exact LeO.refl _)
   | (with_reducible exact LeO.none _)
   | (with_reducible refine LeO.ite ?_ ?_)
   | (with_reducible refine LeO.bind ?_ (fun _ => ?_))
   | exact ih0 _ _ _ _ _ _
   | exact ih1 _ _ _ _
   | exact marquetrylaw10_heavy.mono _ _ _ _
   | exact marquetryref09_SameAll.mono _ _ _
   | exact plain_Read.mono _ _ _ _ _
   | exact plain_Write.mono _ _ _ _
   | exact LeO.none _
   | refine LeO.ite ?_ ?_
   | refine LeO.bind ?_ (fun _ => ?_)
  ·intro y0 y1 y2 y3
   unfold marquetrylaw10_PlainBack.j1
   repeat' first
   | (with_reducible exact ih0 _ _ _ _ _ _)
   | (with_reducible exact ih1 _ _ _ _)
   | (with_reducible exact marquetrylaw10_heavy.mono _ _ _ _)
   | (with_reducible exact marquetryref09_SameAll.mono _ _ _)
   | (with_reducible exact plain_Read.mono _ _ _ _ _)
   | (with_reducible exact plain_Write.mono _ _ _ _)
   | (with_reducible exact LeO.refl _)
   | (with_reducible exact LeO.none _)
   | (with_reducible refine LeO.ite ?_ ?_)
   | (with_reducible refine LeO.bind ?_ (fun _ => ?_))
   | exact ih0 _ _ _ _ _ _
   | exact ih1 _ _ _ _
   | exact marquetrylaw10_heavy.mono _ _ _ _
   | exact marquetryref09_SameAll.mono _ _ _
   | exact plain_Read.mono _ _ _ _ _
   | exact plain_Write.mono _ _ _ _
   | exact LeO.none _
   | refine LeO.ite ?_ ?_
   | refine LeO.bind ?_ (fun _ => ?_)
theorem marquetrylaw10_PlainBack.mono : ∀ a0 a1 a2 a3 a4 k, LeO (marquetrylaw10_PlainBack.f k a0 a1 a2 a3 a4) (marquetrylaw10_PlainBack.f (k + 1) a0 a1 a2 a3 a4) := by
 intro a0 a1 a2 a3 a4 k
 obtain ⟨ih0, ih1⟩ := marquetrylaw10_PlainBack.mono_l k
 unfold marquetrylaw10_PlainBack.f
 repeat' first
   | (with_reducible exact ih0 _ _ _ _ _ _)
   | (with_reducible exact ih1 _ _ _ _)
   | (with_reducible exact marquetrylaw10_heavy.mono _ _ _ _)
   | (with_reducible exact marquetryref09_SameAll.mono _ _ _)
   | (with_reducible exact plain_Read.mono _ _ _ _ _)
   | (with_reducible exact plain_Write.mono _ _ _ _)
   | (with_reducible exact LeO.refl _)
   | (with_reducible exact LeO.none _)
   | (with_reducible refine LeO.ite ?_ ?_)
   | (with_reducible refine LeO.bind ?_ (fun _ => ?_))
   | exact ih0 _ _ _ _ _ _
   | exact ih1 _ _ _ _
   | exact marquetrylaw10_heavy.mono _ _ _ _
   | exact marquetryref09_SameAll.mono _ _ _
   | exact plain_Read.mono _ _ _ _ _
   | exact plain_Write.mono _ _ _ _
   | exact LeO.none _
   | refine LeO.ite ?_ ?_
   | refine LeO.bind ?_ (fun _ => ?_)
set_option maxHeartbeats 8000000 in
set_option maxRecDepth 100000 in
theorem marquetrylaw10_PlainBack.calls (k : Nat) (a0_0 : Int) (a0_1 : Int) (A1 : Option Addr) (c1 : Nat) (l1 : List (S30)) (A2_0 : Option Addr) (c2_0 : Nat) (l2_0 : List Int) (a2_1 : Int) (r : Bool) (w : World) (hr1 : Kd.C k30 w A1 l1.length l1) (hc1 : l1.length ≤ c1) (hr2_0 : Kd.C (Kd.int .u8) w A2_0 l2_0.length l2_0) (hc2_0 : l2_0.length ≤ c2_0) (h : marquetrylaw10_PlainBack.f k a0_0 a0_1 l1 l2_0 a2_1 = some r) :
  Calls Try.prog 6 #[.agg #[.int .i64 a0_0, .int .i64 a0_1], .slice A1 l1.length c1, .agg #[.slice A2_0 l2_0.length c2_0, .int .i64 a2_1]] w fun e w' => e = .returned (.bool r) ∧ Below w.heap.size w w' := by
 have hu25 := Try.underlying25
 have hu50 := Try.underlying50
 have HR1 := Aside0.mk hr1
 have HC1 := Aside0.mk hc1
 clear hr1 hc1
 have HR2_0 := Aside0.mk hr2_0
 have HC2_0 := Aside0.mk hc2_0
 clear hr2_0 hc2_0
 have HB := Aside0.mk (Below.refl w.heap.size w)
 have H : ((marquetrylaw10_heavy.f k a0_0 a0_1 l1).bind fun t211 => (if t211 = true then (marquetrylaw10_PlainBack.j0 k l1 true a0_0 a0_1 l2_0 a2_1) else (marquetrylaw10_PlainBack.j0 k l1 (decide ((l2_0.length : Int) > 2000)) a0_0 a0_1 l2_0 a2_1))) = some r := h
 clear h
 have HC4 := Aside0.mk H
 clear H
 go_enter Try.func6, Try.ntmps6
 go_upto_region 1 with (first | ((with_reducible refine gate_dst (N := 3) rfl ?_); (try (refine gate_guard (by rfl) ?_; dsimp only)); refine box_event ?hg (N := 3) ?hd (cs := #[.int .i64 a0_0, .int .i64 a0_1]) (t := 25) ?hr ?_; (case hd => rfl); (case hg => rfl); (case hr => first | (go_simp; done) | (go_simp; rfl)); intro gb209 hg w5 hbox hb; have n0_ := Aside0.mk (below_step (by repeat (first | (with_reducible first | exact HB.out | apply below_alloc | apply pw_below_drewN | apply below_drew1) | exact HB.out)) hb); have n1_ := Aside0.mk (hbox); have n2_ := Aside0.mk ((by rw [hg]; exact (below_size (by repeat (first | (with_reducible first | exact HB.out | apply below_alloc | apply pw_below_drewN | apply below_drew1) | exact HB.out))) : w.heap.size ≤ gb209)); have n3_ := Aside0.mk ((by rw [hg]; exact (below_size (by repeat (first | (with_reducible first | exact HB.out | apply below_alloc | apply pw_below_drewN | apply below_drew1) | exact HB.out))) : w.heap.size ≤ gb209)); clear HB; have HB := n0_; have BK209 := n1_; have GW209 := n2_; have GE209 := n3_; clear n0_ n1_ n2_ n3_; clear hb hbox hg) | ((with_reducible refine gate_dst (N := 5) rfl ?_); (try (refine gate_guard (by rfl) ?_; dsimp only)); refine box_event ?hg (N := 5) ?hd (cs := #[.slice A2_0 l2_0.length c2_0, .int .i64 a2_1]) (t := 50) ?hr ?_; (case hd => rfl); (case hg => rfl); (case hr => first | (go_simp; done) | (go_simp; rfl)); intro gb210 hg w6 hbox hb; have n0_ := Aside0.mk (blk_below (g := gb209) (o := .cells #[.int .i64 a0_0, .int .i64 a0_1] 25 (0, 0)) (by (with_reducible repeat (first | refine blk_drewN ?_ _ | refine blk_drew ?_ | refine blk_alloc ?_ _)); exact BK209.out) hb); have n1_ := Aside0.mk (below_step (by repeat (first | (with_reducible first | exact HB.out | apply below_alloc | apply pw_below_drewN | apply below_drew1 | refine below_set ?_ GE209.out) | exact HB.out)) hb); have n2_ := Aside0.mk (hbox); have n3_ := Aside0.mk ((by rw [hg]; exact (below_size (by repeat (first | (with_reducible first | exact HB.out | apply below_alloc | apply pw_below_drewN | apply below_drew1 | refine below_set ?_ GE209.out) | exact HB.out))) : w.heap.size ≤ gb210)); have n4_ := Aside0.mk ((by rw [hg]; exact (below_size (by repeat (first | (with_reducible first | exact HB.out | apply below_alloc | apply pw_below_drewN | apply below_drew1 | refine below_set ?_ GE209.out) | exact HB.out))) : w.heap.size ≤ gb210)); have n5_ := Aside0.mk ((by rw [hg]; exact Nat.ne_of_lt (blk_lt (g := gb209) (o := .cells #[.int .i64 a0_0, .int .i64 a0_1] 25 (0, 0)) (by (with_reducible repeat (first | refine blk_drewN ?_ _ | refine blk_drew ?_ | refine blk_alloc ?_ _)); exact BK209.out)) : gb209 ≠ gb210)); have n6_ := Aside0.mk ((by rw [hg]; exact Nat.ne_of_gt (blk_lt (g := gb209) (o := .cells #[.int .i64 a0_0, .int .i64 a0_1] 25 (0, 0)) (by (with_reducible repeat (first | refine blk_drewN ?_ _ | refine blk_drew ?_ | refine blk_alloc ?_ _)); exact BK209.out)) : gb210 ≠ gb209)); clear BK209; clear HB; have BK209 := n0_; have HB := n1_; have BK210 := n2_; have GW210 := n3_; have GE210 := n4_; have NB209_210 := n5_; have NB210_209 := n6_; clear n0_ n1_ n2_ n3_ n4_ n5_ n6_; clear hb hbox hg))
 (try simp only [Act.put, List.setIfInBounds_toArray, List.set_cons_zero, List.set_cons_succ])
 go_cut [23] (fun v23 wc => ∃ (kq : Nat) (x23_3 : Bool), v23 = .bool x23_3 ∧ Aside0 (marquetrylaw10_PlainBack.j0 kq l1 x23_3 a0_0 a0_1 l2_0 a2_1 = some r) ∧ Aside0 (kq ≤ k) ∧ Aside0 (wc.heap[gb209]? = some (.cells #[.int .i64 a0_0, .int .i64 a0_1] 25 (0, 0))) ∧ Aside0 (wc.heap[gb210]? = some (.cells #[(.slice A2_0 l2_0.length c2_0), .int .i64 a2_1] 50 (0, 0))) ∧ Aside0 (Below w.heap.size w wc))
 case first =>
  have H := HC4.out
  clear HC4
  replace H := Option.bind_eq_some_iff.mp H
  obtain ⟨t211, A70, H⟩ := H
  replace H : (if t211 = true then (marquetrylaw10_PlainBack.j0 k l1 true a0_0 a0_1 l2_0 a2_1) else (marquetrylaw10_PlainBack.j0 k l1 (decide ((l2_0.length : Int) > 2000)) a0_0 a0_1 l2_0 a2_1)) = some r := H
  have A7 := Aside0.mk A70
  clear A70
  by_cases c8 : t211 = true
  ·subst c8
   have H1 : (marquetrylaw10_PlainBack.j0 k l1 true a0_0 a0_1 l2_0 a2_1) = some r := by rw [if_pos rfl] at H; exact H
   clear H
   have H := H1
   clear H1
   have H' := Aside0.mk H
   clear H
   have hnb9 := NB209_210.out
   have hnc9 := NB210_209.out
   have hcz10_0 : w6.cell? ⟨gb209, 0, none⟩ = some (.int .i64 a0_0) := (blk_cell BK209.out 0).trans rfl
   have hcz10_1 : w6.cell? ⟨gb209, 1, none⟩ = some (.int .i64 a0_1) := (blk_cell BK209.out 1).trans rfl
   have hfz10_0 := blk_frozen BK209.out 0
   have hfz10_1 := blk_frozen BK209.out 1
   go_wp2_with (first | ((with_reducible refine gate_callee (f := 13) rfl ?_); refine goesL_ (some 17) rfl rfl Try.func13 (by kernel_rfl) rfl #[.agg #[.int .i64 a0_0, .int .i64 a0_1], .slice A1 l1.length c1] rfl (by (try simp only [List.map_toArray, List.map_cons, List.map_nil]); first | done | rfl | (simp only [List.length_drop, List.length_take]; rfl)) ?_; (with_reducible refine (marquetrylaw10_heavy.calls k a0_0 a0_1 _ _ l1 true _ ?side1 ?side2 A7.out).mono ?_); (case side1 => repeat (first | exact (Kd.C_below HR1.out HB.out) | (with_reducible refine Kd.C_alloc ?_ _) | (with_reducible refine Kd.C_drewN ?_ _) | (with_reducible refine Kd.C_drew ?_))); (case side2 => exact HC1.out); rintro e w11 ⟨rfl, hb⟩; refine ⟨_, rfl, ?_⟩; have n0_ := Aside0.mk (blk_below (g := gb209) (o := .cells #[.int .i64 a0_0, .int .i64 a0_1] 25 (0, 0)) (by (with_reducible repeat (first | refine blk_drewN ?_ _ | refine blk_drew ?_ | refine blk_alloc ?_ _)); exact BK209.out) hb); have n1_ := Aside0.mk (blk_below (g := gb210) (o := .cells #[.slice A2_0 l2_0.length c2_0, .int .i64 a2_1] 50 (0, 0)) (by (with_reducible repeat (first | refine blk_drewN ?_ _ | refine blk_drew ?_ | refine blk_alloc ?_ _)); exact BK210.out) hb); have n2_ := Aside0.mk (below_step (by repeat (first | (with_reducible first | exact HB.out | apply below_alloc | apply pw_below_drewN | apply below_drew1 | refine below_set ?_ GE209.out | refine below_set ?_ GE210.out) | exact HB.out)) hb); clear BK209; clear BK210; clear HB; have BK209 := n0_; have BK210 := n1_; have HB := n2_; clear n0_ n1_ n2_; (try clear hb); (try clear hb2); (try clear hk); (try clear hi)))
   go_meet
   case rel => exact ⟨_, (true), (by first | rfl | (simp; done) | (simp [*]; done)), H', ⟨by first | omega | exact Nat.le_refl _⟩, ⟨by (with_reducible repeat (first | refine blk_drewN ?_ _ | refine blk_drew ?_ | refine blk_alloc ?_ _)); exact BK209.out⟩, ⟨by (with_reducible repeat (first | refine blk_drewN ?_ _ | refine blk_drew ?_ | refine blk_alloc ?_ _)); exact BK210.out⟩, ⟨by repeat (first | (with_reducible first | exact HB.out | apply below_alloc | apply pw_below_drewN | apply below_drew1 | refine below_set ?_ GE209.out | refine below_set ?_ GE210.out) | exact HB.out)⟩⟩
  ·replace c8 := Bool.eq_false_iff.mpr c8
   subst c8
   have H1 : (marquetrylaw10_PlainBack.j0 k l1 (decide ((l2_0.length : Int) > 2000)) a0_0 a0_1 l2_0 a2_1) = some r := by rw [if_neg (show ¬ (false = true) by decide)] at H; exact H
   clear H
   have H := H1
   clear H1
   have H' := Aside0.mk H
   clear H
   have hnb12 := NB209_210.out
   have hnc12 := NB210_209.out
   have hcz13_0 : w6.cell? ⟨gb209, 0, none⟩ = some (.int .i64 a0_0) := (blk_cell BK209.out 0).trans rfl
   have hcz13_1 : w6.cell? ⟨gb209, 1, none⟩ = some (.int .i64 a0_1) := (blk_cell BK209.out 1).trans rfl
   have hfz13_0 := blk_frozen BK209.out 0
   have hfz13_1 := blk_frozen BK209.out 1
   go_wp2_with (first | ((with_reducible refine gate_callee (f := 13) rfl ?_); refine goesL_ (some 17) rfl rfl Try.func13 (by kernel_rfl) rfl #[.agg #[.int .i64 a0_0, .int .i64 a0_1], .slice A1 l1.length c1] rfl (by (try simp only [List.map_toArray, List.map_cons, List.map_nil]); first | done | rfl | (simp only [List.length_drop, List.length_take]; rfl)) ?_; (with_reducible refine (marquetrylaw10_heavy.calls k a0_0 a0_1 _ _ l1 false _ ?side1 ?side2 A7.out).mono ?_); (case side1 => repeat (first | exact (Kd.C_below HR1.out HB.out) | (with_reducible refine Kd.C_alloc ?_ _) | (with_reducible refine Kd.C_drewN ?_ _) | (with_reducible refine Kd.C_drew ?_))); (case side2 => exact HC1.out); rintro e w14 ⟨rfl, hb⟩; refine ⟨_, rfl, ?_⟩; have n0_ := Aside0.mk (blk_below (g := gb209) (o := .cells #[.int .i64 a0_0, .int .i64 a0_1] 25 (0, 0)) (by (with_reducible repeat (first | refine blk_drewN ?_ _ | refine blk_drew ?_ | refine blk_alloc ?_ _)); exact BK209.out) hb); have n1_ := Aside0.mk (blk_below (g := gb210) (o := .cells #[.slice A2_0 l2_0.length c2_0, .int .i64 a2_1] 50 (0, 0)) (by (with_reducible repeat (first | refine blk_drewN ?_ _ | refine blk_drew ?_ | refine blk_alloc ?_ _)); exact BK210.out) hb); have n2_ := Aside0.mk (below_step (by repeat (first | (with_reducible first | exact HB.out | apply below_alloc | apply pw_below_drewN | apply below_drew1 | refine below_set ?_ GE209.out | refine below_set ?_ GE210.out) | exact HB.out)) hb); clear BK209; clear BK210; clear HB; have BK209 := n0_; have BK210 := n1_; have HB := n2_; clear n0_ n1_ n2_; (try clear hb); (try clear hb2); (try clear hk); (try clear hi); have hcz15_0 : w14.cell? ⟨gb210, 0, none⟩ = some (.slice A2_0 l2_0.length c2_0) := (blk_cell BK210.out 0).trans rfl; have hcz15_1 : w14.cell? ⟨gb210, 1, none⟩ = some (.int .i64 a2_1) := (blk_cell BK210.out 1).trans rfl; have hfz15_0 := blk_frozen BK210.out 0; have hfz15_1 := blk_frozen BK210.out 1))
   go_meet
   case rel => exact ⟨_, (decide ((l2_0.length : Int) > 2000)), (by first | rfl | (simp; done) | (simp [*]; done)), H', ⟨by first | omega | exact Nat.le_refl _⟩, ⟨by (with_reducible repeat (first | refine blk_drewN ?_ _ | refine blk_drew ?_ | refine blk_alloc ?_ _)); exact BK209.out⟩, ⟨by (with_reducible repeat (first | refine blk_drewN ?_ _ | refine blk_drew ?_ | refine blk_alloc ?_ _)); exact BK210.out⟩, ⟨by repeat (first | (with_reducible first | exact HB.out | apply below_alloc | apply pw_below_drewN | apply below_drew1 | refine below_set ?_ GE209.out | refine below_set ?_ GE210.out) | exact HB.out)⟩⟩
 case rest =>
  clear HC4
  try clear c1
  try clear c2
  try clear p2
  try clear c6
  try clear c8
  try clear c9
  try clear c12
  try clear c13
  try clear hcz10_0
  try clear hcz10_1
  try clear hcz13_0
  try clear hcz13_1
  try clear hcz15_0
  try clear hcz15_1
  try clear hfz10_0
  try clear hfz10_1
  try clear hfz13_0
  try clear hfz13_1
  try clear hfz15_0
  try clear hfz15_1
  obtain ⟨kq, x23_3, rfl, HA, HJ3, BK209, BK210, HB⟩ := hcut
  cases kq with
  | zero => exact absurd HA.out (by simp [marquetrylaw10_PlainBack.j0])
  | succ kj3 =>
   have H := HA.out
   clear HA
   simp only [marquetrylaw10_PlainBack.j0] at H
   by_cases c16 : x23_3 = true
   ·subst c16
    have H1 : (some true) = some r := by rw [if_pos rfl] at H; exact H
    clear H
    have H := H1
    clear H1
    obtain rfl := Option.some.inj H
    go_wp2
    go_ret
    exact ⟨by first | rfl | (simp [errW_none, errW_some] <;> rfl) | (simp [*, errW_none, errW_some] <;> rfl), by repeat (first | (with_reducible first | exact HB.out | apply below_alloc | apply pw_below_drewN | apply below_drew1 | refine below_set ?_ GE209.out | refine below_set ?_ GE210.out) | exact HB.out)⟩
   ·replace c16 := Bool.eq_false_iff.mpr c16
    subst c16
    have H1 : ((plain_Write.f kj3 a0_0 a0_1 l1).bind fun bt212 => (if bt212.2 = 0 then ((plain_Read.f kj3 bt212.1 a0_0 a0_1 (l1.length : Int)).bind fun bt216 => (if bt216.2 = 0 then ((marquetryref09_SameAll.f kj3 bt216.1 l1).bind fun t220 => (if t220 = true then (marquetrylaw10_PlainBack.j1 kj3 a0_0 a0_1 l2_0 a2_1) else (some false))) else (some false))) else (marquetrylaw10_PlainBack.j1 kj3 a0_0 a0_1 l2_0 a2_1))) = some r := by rw [if_neg (show ¬ (false = true) by decide)] at H; exact H
    clear H
    have H := H1
    clear H1
    replace H := Option.bind_eq_some_iff.mp H
    obtain ⟨⟨t212, t215⟩, A170, H⟩ := H
    replace H : (if t215 = 0 then ((plain_Read.f kj3 t212 a0_0 a0_1 (l1.length : Int)).bind fun bt216 => (if bt216.2 = 0 then ((marquetryref09_SameAll.f kj3 bt216.1 l1).bind fun t220 => (if t220 = true then (marquetrylaw10_PlainBack.j1 kj3 a0_0 a0_1 l2_0 a2_1) else (some false))) else (some false))) else (marquetrylaw10_PlainBack.j1 kj3 a0_0 a0_1 l2_0 a2_1)) = some r := H
    have A17 := Aside0.mk A170
    clear A170
    have HC18 := Aside0.mk H
    clear H
    have hnb19 := NB209_210.out
    have hnc19 := NB210_209.out
    have hcz20_0 : wc.cell? ⟨gb209, 0, none⟩ = some (.int .i64 a0_0) := (blk_cell BK209.out 0).trans rfl
    have hcz20_1 : wc.cell? ⟨gb209, 1, none⟩ = some (.int .i64 a0_1) := (blk_cell BK209.out 1).trans rfl
    have hfz20_0 := blk_frozen BK209.out 0
    have hfz20_1 := blk_frozen BK209.out 1
    go_upto_if 31 with (first | ((with_reducible refine gate_callee (f := 14) rfl ?_); refine goesL_ (some 27) rfl rfl Try.func14 (by kernel_rfl) rfl #[.agg #[.int .i64 a0_0, .int .i64 a0_1], .slice A1 l1.length c1] rfl (by (try simp only [List.map_toArray, List.map_cons, List.map_nil]); first | done | rfl | (simp only [List.length_drop, List.length_take]; rfl)) ?_; (with_reducible refine (plain_Write.calls kj3 a0_0 a0_1 _ _ l1 t212 t215 _ ?side1 ?side2 A17.out).mono ?_); (case side1 => repeat (first | exact (Kd.C_below HR1.out HB.out) | (with_reducible refine Kd.C_alloc ?_ _) | (with_reducible refine Kd.C_drewN ?_ _) | (with_reducible refine Kd.C_drew ?_))); (case side2 => exact HC1.out); rintro e w21 ⟨v213, rfl, ho0, hb⟩; refine ⟨_, rfl, ?_⟩; have n0_ := Aside0.mk (Kd.R_lower ho0 (below_size (by repeat (first | (with_reducible first | exact HB.out | apply below_alloc | apply pw_below_drewN | apply below_drew1 | refine below_set ?_ GE209.out | refine below_set ?_ GE210.out) | exact HB.out)))); have n1_ := Aside0.mk (blk_below (g := gb209) (o := .cells #[.int .i64 a0_0, .int .i64 a0_1] 25 (0, 0)) (by (with_reducible repeat (first | refine blk_drewN ?_ _ | refine blk_drew ?_ | refine blk_alloc ?_ _)); exact BK209.out) hb); have n2_ := Aside0.mk (blk_below (g := gb210) (o := .cells #[.slice A2_0 l2_0.length c2_0, .int .i64 a2_1] 50 (0, 0)) (by (with_reducible repeat (first | refine blk_drewN ?_ _ | refine blk_drew ?_ | refine blk_alloc ?_ _)); exact BK210.out) hb); have n3_ := Aside0.mk (below_step (by repeat (first | (with_reducible first | exact HB.out | apply below_alloc | apply pw_below_drewN | apply below_drew1 | refine below_set ?_ GE209.out | refine below_set ?_ GE210.out) | exact HB.out)) hb); clear BK209; clear BK210; clear HB; have HO214 := n0_; have BK209 := n1_; have BK210 := n2_; have HB := n3_; clear n0_ n1_ n2_ n3_; (try clear hb); (try clear hb2); (try clear hk); (try clear hi); (try clear ho0)))
    (try simp only [Act.put, List.setIfInBounds_toArray, List.set_cons_zero, List.set_cons_succ])
    go_cut [] (fun wc => ∃ (kq : Nat), Aside0 (marquetrylaw10_PlainBack.j1 kq a0_0 a0_1 l2_0 a2_1 = some r) ∧ Aside0 (kq ≤ kj3) ∧ Aside0 (wc.heap[gb209]? = some (.cells #[.int .i64 a0_0, .int .i64 a0_1] 25 (0, 0))) ∧ Aside0 (wc.heap[gb210]? = some (.cells #[(.slice A2_0 l2_0.length c2_0), .int .i64 a2_1] 50 (0, 0))) ∧ Aside0 (Below w.heap.size w wc))
    case first =>
     have H := HC18.out
     clear HC18
     by_cases c22 : t215 = 0
     ·rw [if_pos c22] at H
      have c22b0 : (t215 == 0) = true := beq_iff_eq.mpr c22
      have c22b1 : (t215 != 0) = false := bne_eq_false_iff_eq.mpr c22
      clear c22
      (first | rw [c22b0] | (simp only [i64_w, i32_w]; rw [c22b0]) | skip)
      replace H := Option.bind_eq_some_iff.mp H
      obtain ⟨⟨t216, t219⟩, A230, H⟩ := H
      replace H : (if t219 = 0 then ((marquetryref09_SameAll.f kj3 t216 l1).bind fun t220 => (if t220 = true then (marquetrylaw10_PlainBack.j1 kj3 a0_0 a0_1 l2_0 a2_1) else (some false))) else (some false)) = some r := H
      have A23 := Aside0.mk A230
      clear A230
      by_cases c24 : t219 = 0
      ·rw [if_pos c24] at H
       have c24b0 : (t219 == 0) = true := beq_iff_eq.mpr c24
       have c24b1 : (t219 != 0) = false := bne_eq_false_iff_eq.mpr c24
       clear c24
       replace H := Option.bind_eq_some_iff.mp H
       obtain ⟨t220, A250, H⟩ := H
       replace H : (if t220 = true then (marquetrylaw10_PlainBack.j1 kj3 a0_0 a0_1 l2_0 a2_1) else (some false)) = some r := H
       have A25 := Aside0.mk A250
       clear A250
       by_cases c26 : t220 = true
       ·subst c26
        have H1 : (marquetrylaw10_PlainBack.j1 kj3 a0_0 a0_1 l2_0 a2_1) = some r := by rw [if_pos rfl] at H; exact H
        clear H
        have H := H1
        clear H1
        have H' := Aside0.mk H
        clear H
        have hnb27 := NB209_210.out
        have hnc27 := NB210_209.out
        have hcz28_0 : w21.cell? ⟨gb209, 0, none⟩ = some (.int .i64 a0_0) := (blk_cell BK209.out 0).trans rfl
        have hcz28_1 : w21.cell? ⟨gb209, 1, none⟩ = some (.int .i64 a0_1) := (blk_cell BK209.out 1).trans rfl
        have hfz28_0 := blk_frozen BK209.out 0
        have hfz28_1 := blk_frozen BK209.out 1
        obtain ⟨Ao29, co29, eo29⟩ := Kd.R_slice HO214.out
        subst eo29
        go_wp2_with (first | ((with_reducible refine gate_callee (f := 10) rfl ?_); refine goesL_ (some 37) rfl rfl Try.func10 (by kernel_rfl) rfl #[.slice Ao29 t212.length co29, .agg #[.int .i64 a0_0, .int .i64 a0_1], .int .i64 (l1.length : Int)] rfl (by (try simp only [List.map_toArray, List.map_cons, List.map_nil]); first | done | rfl | (simp only [List.length_drop, List.length_take]; rfl)) ?_; (with_reducible refine (plain_Read.calls kj3 _ _ t212 a0_0 a0_1 (l1.length : Int) t216 t219 _ ?side1 ?side2 A23.out).mono ?_); (case side1 => repeat (first | exact (Kd.R_reads' HO214.out).2.2 | (with_reducible refine Kd.C_alloc ?_ _) | (with_reducible refine Kd.C_drewN ?_ _) | (with_reducible refine Kd.C_drew ?_))); (case side2 => exact (Kd.R_reads' HO214.out).2.1); rintro e w30 ⟨v217, rfl, ho0, hb⟩; refine ⟨_, rfl, ?_⟩; have n0_ := Aside0.mk (Kd.R_below (by (with_reducible repeat (first | apply Kd.R_alloc | apply Kd.R_drewN | apply Kd.R_drew)); exact HO214.out) hb); have n1_ := Aside0.mk (Kd.R_lower ho0 (below_size (by repeat (first | (with_reducible first | exact HB.out | apply below_alloc | apply pw_below_drewN | apply below_drew1 | refine below_set ?_ GE209.out | refine below_set ?_ GE210.out) | exact HB.out)))); have n2_ := Aside0.mk (blk_below (g := gb209) (o := .cells #[.int .i64 a0_0, .int .i64 a0_1] 25 (0, 0)) (by (with_reducible repeat (first | refine blk_drewN ?_ _ | refine blk_drew ?_ | refine blk_alloc ?_ _)); exact BK209.out) hb); have n3_ := Aside0.mk (blk_below (g := gb210) (o := .cells #[.slice A2_0 l2_0.length c2_0, .int .i64 a2_1] 50 (0, 0)) (by (with_reducible repeat (first | refine blk_drewN ?_ _ | refine blk_drew ?_ | refine blk_alloc ?_ _)); exact BK210.out) hb); have n4_ := Aside0.mk (below_step (by repeat (first | (with_reducible first | exact HB.out | apply below_alloc | apply pw_below_drewN | apply below_drew1 | refine below_set ?_ GE209.out | refine below_set ?_ GE210.out) | exact HB.out)) hb); clear HO214; clear BK209; clear BK210; clear HB; have HO214 := n0_; have HO218 := n1_; have BK209 := n2_; have BK210 := n3_; have HB := n4_; clear n0_ n1_ n2_ n3_ n4_; (try clear hb); (try clear hb2); (try clear hk); (try clear hi); (try clear ho0); obtain ⟨Ao31, co31, eo31⟩ := Kd.R_slice HO218.out; subst eo31) | (go_at_call 12; (with_reducible refine (marquetryref09_SameAll.calls kj3 _ _ t216 _ _ l1 true _ ?side1 ?side2 ?side3 ?side4 A25.out).mono ?_); (case side1 => repeat (first | exact (Kd.R_reads' HO218.out).2.2 | (with_reducible refine Kd.C_alloc ?_ _) | (with_reducible refine Kd.C_drewN ?_ _) | (with_reducible refine Kd.C_drew ?_))); (case side2 => exact (Kd.R_reads' HO218.out).2.1); (case side3 => repeat (first | exact (Kd.C_below HR1.out HB.out) | (with_reducible refine Kd.C_alloc ?_ _) | (with_reducible refine Kd.C_drewN ?_ _) | (with_reducible refine Kd.C_drew ?_))); (case side4 => exact HC1.out); rintro e w' ⟨rfl, ⟨nd, rfl⟩⟩))
        go_meet
        case rel => exact ⟨_, H', ⟨by have := HJ3.out; first | omega | exact Nat.le_refl _⟩, ⟨by (with_reducible repeat (first | refine blk_drewN ?_ _ | refine blk_drew ?_ | refine blk_alloc ?_ _)); exact BK209.out⟩, ⟨by (with_reducible repeat (first | refine blk_drewN ?_ _ | refine blk_drew ?_ | refine blk_alloc ?_ _)); exact BK210.out⟩, ⟨by repeat (first | (with_reducible first | exact HB.out | apply below_alloc | apply pw_below_drewN | apply below_drew1 | refine below_set ?_ GE209.out | refine below_set ?_ GE210.out) | exact HB.out)⟩⟩
       ·replace c26 := Bool.eq_false_iff.mpr c26
        subst c26
        have H1 : (some false) = some r := by rw [if_neg (show ¬ (false = true) by decide)] at H; exact H
        clear H
        have H := H1
        clear H1
        obtain rfl := Option.some.inj H
        have hnb32 := NB209_210.out
        have hnc32 := NB210_209.out
        have hcz33_0 : w21.cell? ⟨gb209, 0, none⟩ = some (.int .i64 a0_0) := (blk_cell BK209.out 0).trans rfl
        have hcz33_1 : w21.cell? ⟨gb209, 1, none⟩ = some (.int .i64 a0_1) := (blk_cell BK209.out 1).trans rfl
        have hfz33_0 := blk_frozen BK209.out 0
        have hfz33_1 := blk_frozen BK209.out 1
        obtain ⟨Ao34, co34, eo34⟩ := Kd.R_slice HO214.out
        subst eo34
        go_wp2_with (first | ((with_reducible refine gate_callee (f := 10) rfl ?_); refine goesL_ (some 37) rfl rfl Try.func10 (by kernel_rfl) rfl #[.slice Ao34 t212.length co34, .agg #[.int .i64 a0_0, .int .i64 a0_1], .int .i64 (l1.length : Int)] rfl (by (try simp only [List.map_toArray, List.map_cons, List.map_nil]); first | done | rfl | (simp only [List.length_drop, List.length_take]; rfl)) ?_; (with_reducible refine (plain_Read.calls kj3 _ _ t212 a0_0 a0_1 (l1.length : Int) t216 t219 _ ?side1 ?side2 A23.out).mono ?_); (case side1 => repeat (first | exact (Kd.R_reads' HO214.out).2.2 | (with_reducible refine Kd.C_alloc ?_ _) | (with_reducible refine Kd.C_drewN ?_ _) | (with_reducible refine Kd.C_drew ?_))); (case side2 => exact (Kd.R_reads' HO214.out).2.1); rintro e w35 ⟨v217, rfl, ho0, hb⟩; refine ⟨_, rfl, ?_⟩; have n0_ := Aside0.mk (Kd.R_below (by (with_reducible repeat (first | apply Kd.R_alloc | apply Kd.R_drewN | apply Kd.R_drew)); exact HO214.out) hb); have n1_ := Aside0.mk (Kd.R_lower ho0 (below_size (by repeat (first | (with_reducible first | exact HB.out | apply below_alloc | apply pw_below_drewN | apply below_drew1 | refine below_set ?_ GE209.out | refine below_set ?_ GE210.out) | exact HB.out)))); have n2_ := Aside0.mk (blk_below (g := gb209) (o := .cells #[.int .i64 a0_0, .int .i64 a0_1] 25 (0, 0)) (by (with_reducible repeat (first | refine blk_drewN ?_ _ | refine blk_drew ?_ | refine blk_alloc ?_ _)); exact BK209.out) hb); have n3_ := Aside0.mk (blk_below (g := gb210) (o := .cells #[.slice A2_0 l2_0.length c2_0, .int .i64 a2_1] 50 (0, 0)) (by (with_reducible repeat (first | refine blk_drewN ?_ _ | refine blk_drew ?_ | refine blk_alloc ?_ _)); exact BK210.out) hb); have n4_ := Aside0.mk (below_step (by repeat (first | (with_reducible first | exact HB.out | apply below_alloc | apply pw_below_drewN | apply below_drew1 | refine below_set ?_ GE209.out | refine below_set ?_ GE210.out) | exact HB.out)) hb); clear HO214; clear BK209; clear BK210; clear HB; have HO214 := n0_; have HO218 := n1_; have BK209 := n2_; have BK210 := n3_; have HB := n4_; clear n0_ n1_ n2_ n3_ n4_; (try clear hb); (try clear hb2); (try clear hk); (try clear hi); (try clear ho0); obtain ⟨Ao36, co36, eo36⟩ := Kd.R_slice HO218.out; subst eo36) | (go_at_call 12; (with_reducible refine (marquetryref09_SameAll.calls kj3 _ _ t216 _ _ l1 false _ ?side1 ?side2 ?side3 ?side4 A25.out).mono ?_); (case side1 => repeat (first | exact (Kd.R_reads' HO218.out).2.2 | (with_reducible refine Kd.C_alloc ?_ _) | (with_reducible refine Kd.C_drewN ?_ _) | (with_reducible refine Kd.C_drew ?_))); (case side2 => exact (Kd.R_reads' HO218.out).2.1); (case side3 => repeat (first | exact (Kd.C_below HR1.out HB.out) | (with_reducible refine Kd.C_alloc ?_ _) | (with_reducible refine Kd.C_drewN ?_ _) | (with_reducible refine Kd.C_drew ?_))); (case side4 => exact HC1.out); rintro e w' ⟨rfl, ⟨nd, rfl⟩⟩))
        go_ret
        exact ⟨by first | rfl | (simp [errW_none, errW_some] <;> rfl) | (simp [*, errW_none, errW_some] <;> rfl), by repeat (first | (with_reducible first | exact HB.out | apply below_alloc | apply pw_below_drewN | apply below_drew1 | refine below_set ?_ GE209.out | refine below_set ?_ GE210.out) | exact HB.out)⟩
      ·rw [if_neg c24] at H
       have c24b0 : (t219 == 0) = false := beq_eq_false_iff_ne.mpr c24
       have c24b1 : (t219 != 0) = true := bne_iff_ne.mpr c24
       obtain rfl := Option.some.inj H
       have hnb37 := NB209_210.out
       have hnc37 := NB210_209.out
       have hcz38_0 : w21.cell? ⟨gb209, 0, none⟩ = some (.int .i64 a0_0) := (blk_cell BK209.out 0).trans rfl
       have hcz38_1 : w21.cell? ⟨gb209, 1, none⟩ = some (.int .i64 a0_1) := (blk_cell BK209.out 1).trans rfl
       have hfz38_0 := blk_frozen BK209.out 0
       have hfz38_1 := blk_frozen BK209.out 1
       obtain ⟨Ao39, co39, eo39⟩ := Kd.R_slice HO214.out
       subst eo39
       go_wp2_with (first | ((with_reducible refine gate_callee (f := 10) rfl ?_); refine goesL_ (some 37) rfl rfl Try.func10 (by kernel_rfl) rfl #[.slice Ao39 t212.length co39, .agg #[.int .i64 a0_0, .int .i64 a0_1], .int .i64 (l1.length : Int)] rfl (by (try simp only [List.map_toArray, List.map_cons, List.map_nil]); first | done | rfl | (simp only [List.length_drop, List.length_take]; rfl)) ?_; (with_reducible refine (plain_Read.calls kj3 _ _ t212 a0_0 a0_1 (l1.length : Int) t216 t219 _ ?side1 ?side2 A23.out).mono ?_); (case side1 => repeat (first | exact (Kd.R_reads' HO214.out).2.2 | (with_reducible refine Kd.C_alloc ?_ _) | (with_reducible refine Kd.C_drewN ?_ _) | (with_reducible refine Kd.C_drew ?_))); (case side2 => exact (Kd.R_reads' HO214.out).2.1); rintro e w40 ⟨v217, rfl, ho0, hb⟩; refine ⟨_, rfl, ?_⟩; have n0_ := Aside0.mk (Kd.R_below (by (with_reducible repeat (first | apply Kd.R_alloc | apply Kd.R_drewN | apply Kd.R_drew)); exact HO214.out) hb); have n1_ := Aside0.mk (Kd.R_lower ho0 (below_size (by repeat (first | (with_reducible first | exact HB.out | apply below_alloc | apply pw_below_drewN | apply below_drew1 | refine below_set ?_ GE209.out | refine below_set ?_ GE210.out) | exact HB.out)))); have n2_ := Aside0.mk (blk_below (g := gb209) (o := .cells #[.int .i64 a0_0, .int .i64 a0_1] 25 (0, 0)) (by (with_reducible repeat (first | refine blk_drewN ?_ _ | refine blk_drew ?_ | refine blk_alloc ?_ _)); exact BK209.out) hb); have n3_ := Aside0.mk (blk_below (g := gb210) (o := .cells #[.slice A2_0 l2_0.length c2_0, .int .i64 a2_1] 50 (0, 0)) (by (with_reducible repeat (first | refine blk_drewN ?_ _ | refine blk_drew ?_ | refine blk_alloc ?_ _)); exact BK210.out) hb); have n4_ := Aside0.mk (below_step (by repeat (first | (with_reducible first | exact HB.out | apply below_alloc | apply pw_below_drewN | apply below_drew1 | refine below_set ?_ GE209.out | refine below_set ?_ GE210.out) | exact HB.out)) hb); clear HO214; clear BK209; clear BK210; clear HB; have HO214 := n0_; have HO218 := n1_; have BK209 := n2_; have BK210 := n3_; have HB := n4_; clear n0_ n1_ n2_ n3_ n4_; (try clear hb); (try clear hb2); (try clear hk); (try clear hi); (try clear ho0)))
       go_ret
       exact ⟨by first | rfl | (simp [errW_none, errW_some] <;> rfl) | (simp [*, errW_none, errW_some] <;> rfl), by repeat (first | (with_reducible first | exact HB.out | apply below_alloc | apply pw_below_drewN | apply below_drew1 | refine below_set ?_ GE209.out | refine below_set ?_ GE210.out) | exact HB.out)⟩
     ·rw [if_neg c22] at H
      have c22b0 : (t215 == 0) = false := beq_eq_false_iff_ne.mpr c22
      have c22b1 : (t215 != 0) = true := bne_iff_ne.mpr c22
      (first | rw [c22b0] | (simp only [i64_w, i32_w]; rw [c22b0]) | skip)
      have H' := Aside0.mk H
      clear H
      go_wp2
      go_meet
      case rel => exact ⟨_, H', ⟨by have := HJ3.out; first | omega | exact Nat.le_refl _⟩, ⟨by (with_reducible repeat (first | refine blk_drewN ?_ _ | refine blk_drew ?_ | refine blk_alloc ?_ _)); exact BK209.out⟩, ⟨by (with_reducible repeat (first | refine blk_drewN ?_ _ | refine blk_drew ?_ | refine blk_alloc ?_ _)); exact BK210.out⟩, ⟨by repeat (first | (with_reducible first | exact HB.out | apply below_alloc | apply pw_below_drewN | apply below_drew1 | refine below_set ?_ GE209.out | refine below_set ?_ GE210.out) | exact HB.out)⟩⟩
    case rest =>
     clear HC18
     try clear c1
     try clear c2
     try clear p2
     try clear c3
     try clear c6
     try clear c8
     try clear c9
     try clear c10
     try clear c12
     try clear c13
     try clear c14
     try clear c16
     try clear c19
     try clear c22
     try clear c22b0
     try clear c22b1
     try clear c24
     try clear c24b0
     try clear c24b1
     try clear c26
     try clear c27
     try clear c32
     try clear c37
     try clear hcz10_0
     try clear hcz10_1
     try clear hcz13_0
     try clear hcz13_1
     try clear hcz15_0
     try clear hcz15_1
     try clear hcz20_0
     try clear hcz20_1
     try clear hcz28_0
     try clear hcz28_1
     try clear hcz33_0
     try clear hcz33_1
     try clear hcz38_0
     try clear hcz38_1
     try clear hfz10_0
     try clear hfz10_1
     try clear hfz13_0
     try clear hfz13_1
     try clear hfz15_0
     try clear hfz15_1
     try clear hfz20_0
     try clear hfz20_1
     try clear hfz28_0
     try clear hfz28_1
     try clear hfz33_0
     try clear hfz33_1
     try clear hfz38_0
     try clear hfz38_1
     try clear p2
     obtain ⟨kq, HA, HJ17, BK209, BK210, HB⟩ := hcut
     cases kq with
     | zero => exact absurd HA.out (by simp [marquetrylaw10_PlainBack.j1])
     | succ kj17 =>
      have H := HA.out
      clear HA
      simp only [marquetrylaw10_PlainBack.j1] at H
      replace H := Option.bind_eq_some_iff.mp H
      obtain ⟨⟨t221, t224⟩, A410, H⟩ := H
      replace H : (if t224 = 0 then ((plain_Write.f kj17 a0_0 a0_1 t221).bind fun bt225 => (if bt225.2 = 0 then (some ((strOfNums bt225.1).toList == (strOfNums l2_0).toList)) else (some false))) else (some ((t221.length : Int) == 0))) = some r := H
      have A41 := Aside0.mk A410
      clear A410
      by_cases c42 : t224 = 0
      ·rw [if_pos c42] at H
       have c42b0 : (t224 == 0) = true := beq_iff_eq.mpr c42
       have c42b1 : (t224 != 0) = false := bne_eq_false_iff_eq.mpr c42
       clear c42
       replace H := Option.bind_eq_some_iff.mp H
       obtain ⟨⟨t225, t228⟩, A430, H⟩ := H
       replace H : (if t228 = 0 then (some ((strOfNums t225).toList == (strOfNums l2_0).toList)) else (some false)) = some r := H
       have A43 := Aside0.mk A430
       clear A430
       by_cases c44 : t228 = 0
       ·rw [if_pos c44] at H
        have c44b0 : (t228 == 0) = true := beq_iff_eq.mpr c44
        have c44b1 : (t228 != 0) = false := bne_eq_false_iff_eq.mpr c44
        clear c44
        obtain rfl := Option.some.inj H
        have hnb45 := NB210_209.out
        have hnc45 := NB209_210.out
        have hcz46_0 : wc.cell? ⟨gb210, 0, none⟩ = some (.slice A2_0 l2_0.length c2_0) := (blk_cell BK210.out 0).trans rfl
        have hcz46_1 : wc.cell? ⟨gb210, 1, none⟩ = some (.int .i64 a2_1) := (blk_cell BK210.out 1).trans rfl
        have hfz46_0 := blk_frozen BK210.out 0
        have hfz46_1 := blk_frozen BK210.out 1
        have hcz47_0 : wc.cell? ⟨gb209, 0, none⟩ = some (.int .i64 a0_0) := (blk_cell BK209.out 0).trans rfl
        have hcz47_1 : wc.cell? ⟨gb209, 1, none⟩ = some (.int .i64 a0_1) := (blk_cell BK209.out 1).trans rfl
        have hfz47_0 := blk_frozen BK209.out 0
        have hfz47_1 := blk_frozen BK209.out 1
        go_wp2_with (first | ((with_reducible refine gate_callee (f := 10) rfl ?_); refine goesL_ (some 54) rfl rfl Try.func10 (by kernel_rfl) rfl #[.slice A2_0 l2_0.length c2_0, .agg #[.int .i64 a0_0, .int .i64 a0_1], .int .i64 a2_1] rfl (by (try simp only [List.map_toArray, List.map_cons, List.map_nil]); first | done | rfl | (simp only [List.length_drop, List.length_take]; rfl)) ?_; (with_reducible refine (plain_Read.calls kj17 _ _ l2_0 a0_0 a0_1 a2_1 t221 t224 _ ?side1 ?side2 A41.out).mono ?_); (case side1 => repeat (first | exact (Kd.C_below HR2_0.out HB.out) | (with_reducible refine Kd.C_alloc ?_ _) | (with_reducible refine Kd.C_drewN ?_ _) | (with_reducible refine Kd.C_drew ?_))); (case side2 => exact HC2_0.out); rintro e w48 ⟨v222, rfl, ho0, hb⟩; refine ⟨_, rfl, ?_⟩; have n0_ := Aside0.mk (Kd.R_lower ho0 (below_size (by repeat (first | (with_reducible first | exact HB.out | apply below_alloc | apply pw_below_drewN | apply below_drew1 | refine below_set ?_ GE209.out | refine below_set ?_ GE210.out) | exact HB.out)))); have n1_ := Aside0.mk (blk_below (g := gb209) (o := .cells #[.int .i64 a0_0, .int .i64 a0_1] 25 (0, 0)) (by (with_reducible repeat (first | refine blk_drewN ?_ _ | refine blk_drew ?_ | refine blk_alloc ?_ _)); exact BK209.out) hb); have n2_ := Aside0.mk (blk_below (g := gb210) (o := .cells #[.slice A2_0 l2_0.length c2_0, .int .i64 a2_1] 50 (0, 0)) (by (with_reducible repeat (first | refine blk_drewN ?_ _ | refine blk_drew ?_ | refine blk_alloc ?_ _)); exact BK210.out) hb); have n3_ := Aside0.mk (below_step (by repeat (first | (with_reducible first | exact HB.out | apply below_alloc | apply pw_below_drewN | apply below_drew1 | refine below_set ?_ GE209.out | refine below_set ?_ GE210.out) | exact HB.out)) hb); clear BK209; clear BK210; clear HB; have HO223 := n0_; have BK209 := n1_; have BK210 := n2_; have HB := n3_; clear n0_ n1_ n2_ n3_; (try clear hb); (try clear hb2); (try clear hk); (try clear hi); (try clear ho0); have hcz49_0 : w48.cell? ⟨gb209, 0, none⟩ = some (.int .i64 a0_0) := (blk_cell BK209.out 0).trans rfl; have hcz49_1 : w48.cell? ⟨gb209, 1, none⟩ = some (.int .i64 a0_1) := (blk_cell BK209.out 1).trans rfl; have hfz49_0 := blk_frozen BK209.out 0; have hfz49_1 := blk_frozen BK209.out 1; obtain ⟨Ao50, co50, eo50⟩ := Kd.R_slice HO223.out; subst eo50) | ((with_reducible refine gate_callee (f := 14) rfl ?_); refine goesL_ (some 65) rfl rfl Try.func14 (by kernel_rfl) rfl #[.agg #[.int .i64 a0_0, .int .i64 a0_1], .slice Ao50 t221.length co50] rfl (by (try simp only [List.map_toArray, List.map_cons, List.map_nil]); first | done | rfl | (simp only [List.length_drop, List.length_take]; rfl)) ?_; (with_reducible refine (plain_Write.calls kj17 a0_0 a0_1 _ _ t221 t225 t228 _ ?side1 ?side2 A43.out).mono ?_); (case side1 => repeat (first | exact (Kd.R_reads' HO223.out).2.2 | (with_reducible refine Kd.C_alloc ?_ _) | (with_reducible refine Kd.C_drewN ?_ _) | (with_reducible refine Kd.C_drew ?_))); (case side2 => exact (Kd.R_reads' HO223.out).2.1); rintro e w51 ⟨v226, rfl, ho0, hb⟩; refine ⟨_, rfl, ?_⟩; have n0_ := Aside0.mk (Kd.R_below (by (with_reducible repeat (first | apply Kd.R_alloc | apply Kd.R_drewN | apply Kd.R_drew)); exact HO223.out) hb); have n1_ := Aside0.mk (Kd.R_lower ho0 (below_size (by repeat (first | (with_reducible first | exact HB.out | apply below_alloc | apply pw_below_drewN | apply below_drew1 | refine below_set ?_ GE209.out | refine below_set ?_ GE210.out) | exact HB.out)))); have n2_ := Aside0.mk (blk_below (g := gb209) (o := .cells #[.int .i64 a0_0, .int .i64 a0_1] 25 (0, 0)) (by (with_reducible repeat (first | refine blk_drewN ?_ _ | refine blk_drew ?_ | refine blk_alloc ?_ _)); exact BK209.out) hb); have n3_ := Aside0.mk (blk_below (g := gb210) (o := .cells #[.slice A2_0 l2_0.length c2_0, .int .i64 a2_1] 50 (0, 0)) (by (with_reducible repeat (first | refine blk_drewN ?_ _ | refine blk_drew ?_ | refine blk_alloc ?_ _)); exact BK210.out) hb); have n4_ := Aside0.mk (below_step (by repeat (first | (with_reducible first | exact HB.out | apply below_alloc | apply pw_below_drewN | apply below_drew1 | refine below_set ?_ GE209.out | refine below_set ?_ GE210.out) | exact HB.out)) hb); clear HO223; clear BK209; clear BK210; clear HB; have HO223 := n0_; have HO227 := n1_; have BK209 := n2_; have BK210 := n3_; have HB := n4_; clear n0_ n1_ n2_ n3_ n4_; (try clear hb); (try clear hb2); (try clear hk); (try clear hi); (try clear ho0); have hcv52 := own_string (P := Try.prog) Try.underlying22 Try.underlying5 Try.underlying9 (Kd.own_of_R HO227.out); have hcz53_0 : w51.cell? ⟨gb210, 0, none⟩ = some (.slice A2_0 l2_0.length c2_0) := (blk_cell BK210.out 0).trans rfl; have hcz53_1 : w51.cell? ⟨gb210, 1, none⟩ = some (.int .i64 a2_1) := (blk_cell BK210.out 1).trans rfl; have hfz53_0 := blk_frozen BK210.out 0; have hfz53_1 := blk_frozen BK210.out 1; have hcv54 := Kd.C_string (P := Try.prog) (A := A2_0) (c := c2_0) Try.underlying22 Try.underlying5 Try.underlying9 (Kd.C_below HR2_0.out HB.out)))
        go_ret
        exact ⟨by first | rfl | (simp [errW_none, errW_some] <;> rfl) | (simp [*, errW_none, errW_some] <;> rfl), by repeat (first | (with_reducible first | exact HB.out | apply below_alloc | apply pw_below_drewN | apply below_drew1 | refine below_set ?_ GE209.out | refine below_set ?_ GE210.out) | exact HB.out)⟩
       ·rw [if_neg c44] at H
        have c44b0 : (t228 == 0) = false := beq_eq_false_iff_ne.mpr c44
        have c44b1 : (t228 != 0) = true := bne_iff_ne.mpr c44
        obtain rfl := Option.some.inj H
        have hnb55 := NB210_209.out
        have hnc55 := NB209_210.out
        have hcz56_0 : wc.cell? ⟨gb210, 0, none⟩ = some (.slice A2_0 l2_0.length c2_0) := (blk_cell BK210.out 0).trans rfl
        have hcz56_1 : wc.cell? ⟨gb210, 1, none⟩ = some (.int .i64 a2_1) := (blk_cell BK210.out 1).trans rfl
        have hfz56_0 := blk_frozen BK210.out 0
        have hfz56_1 := blk_frozen BK210.out 1
        have hcz57_0 : wc.cell? ⟨gb209, 0, none⟩ = some (.int .i64 a0_0) := (blk_cell BK209.out 0).trans rfl
        have hcz57_1 : wc.cell? ⟨gb209, 1, none⟩ = some (.int .i64 a0_1) := (blk_cell BK209.out 1).trans rfl
        have hfz57_0 := blk_frozen BK209.out 0
        have hfz57_1 := blk_frozen BK209.out 1
        go_wp2_with (first | ((with_reducible refine gate_callee (f := 10) rfl ?_); refine goesL_ (some 54) rfl rfl Try.func10 (by kernel_rfl) rfl #[.slice A2_0 l2_0.length c2_0, .agg #[.int .i64 a0_0, .int .i64 a0_1], .int .i64 a2_1] rfl (by (try simp only [List.map_toArray, List.map_cons, List.map_nil]); first | done | rfl | (simp only [List.length_drop, List.length_take]; rfl)) ?_; (with_reducible refine (plain_Read.calls kj17 _ _ l2_0 a0_0 a0_1 a2_1 t221 t224 _ ?side1 ?side2 A41.out).mono ?_); (case side1 => repeat (first | exact (Kd.C_below HR2_0.out HB.out) | (with_reducible refine Kd.C_alloc ?_ _) | (with_reducible refine Kd.C_drewN ?_ _) | (with_reducible refine Kd.C_drew ?_))); (case side2 => exact HC2_0.out); rintro e w58 ⟨v222, rfl, ho0, hb⟩; refine ⟨_, rfl, ?_⟩; have n0_ := Aside0.mk (Kd.R_lower ho0 (below_size (by repeat (first | (with_reducible first | exact HB.out | apply below_alloc | apply pw_below_drewN | apply below_drew1 | refine below_set ?_ GE209.out | refine below_set ?_ GE210.out) | exact HB.out)))); have n1_ := Aside0.mk (blk_below (g := gb209) (o := .cells #[.int .i64 a0_0, .int .i64 a0_1] 25 (0, 0)) (by (with_reducible repeat (first | refine blk_drewN ?_ _ | refine blk_drew ?_ | refine blk_alloc ?_ _)); exact BK209.out) hb); have n2_ := Aside0.mk (blk_below (g := gb210) (o := .cells #[.slice A2_0 l2_0.length c2_0, .int .i64 a2_1] 50 (0, 0)) (by (with_reducible repeat (first | refine blk_drewN ?_ _ | refine blk_drew ?_ | refine blk_alloc ?_ _)); exact BK210.out) hb); have n3_ := Aside0.mk (below_step (by repeat (first | (with_reducible first | exact HB.out | apply below_alloc | apply pw_below_drewN | apply below_drew1 | refine below_set ?_ GE209.out | refine below_set ?_ GE210.out) | exact HB.out)) hb); clear BK209; clear BK210; clear HB; have HO223 := n0_; have BK209 := n1_; have BK210 := n2_; have HB := n3_; clear n0_ n1_ n2_ n3_; (try clear hb); (try clear hb2); (try clear hk); (try clear hi); (try clear ho0); have hcz59_0 : w58.cell? ⟨gb209, 0, none⟩ = some (.int .i64 a0_0) := (blk_cell BK209.out 0).trans rfl; have hcz59_1 : w58.cell? ⟨gb209, 1, none⟩ = some (.int .i64 a0_1) := (blk_cell BK209.out 1).trans rfl; have hfz59_0 := blk_frozen BK209.out 0; have hfz59_1 := blk_frozen BK209.out 1; obtain ⟨Ao60, co60, eo60⟩ := Kd.R_slice HO223.out; subst eo60) | ((with_reducible refine gate_callee (f := 14) rfl ?_); refine goesL_ (some 65) rfl rfl Try.func14 (by kernel_rfl) rfl #[.agg #[.int .i64 a0_0, .int .i64 a0_1], .slice Ao60 t221.length co60] rfl (by (try simp only [List.map_toArray, List.map_cons, List.map_nil]); first | done | rfl | (simp only [List.length_drop, List.length_take]; rfl)) ?_; (with_reducible refine (plain_Write.calls kj17 a0_0 a0_1 _ _ t221 t225 t228 _ ?side1 ?side2 A43.out).mono ?_); (case side1 => repeat (first | exact (Kd.R_reads' HO223.out).2.2 | (with_reducible refine Kd.C_alloc ?_ _) | (with_reducible refine Kd.C_drewN ?_ _) | (with_reducible refine Kd.C_drew ?_))); (case side2 => exact (Kd.R_reads' HO223.out).2.1); rintro e w61 ⟨v226, rfl, ho0, hb⟩; refine ⟨_, rfl, ?_⟩; have n0_ := Aside0.mk (Kd.R_below (by (with_reducible repeat (first | apply Kd.R_alloc | apply Kd.R_drewN | apply Kd.R_drew)); exact HO223.out) hb); have n1_ := Aside0.mk (Kd.R_lower ho0 (below_size (by repeat (first | (with_reducible first | exact HB.out | apply below_alloc | apply pw_below_drewN | apply below_drew1 | refine below_set ?_ GE209.out | refine below_set ?_ GE210.out) | exact HB.out)))); have n2_ := Aside0.mk (blk_below (g := gb209) (o := .cells #[.int .i64 a0_0, .int .i64 a0_1] 25 (0, 0)) (by (with_reducible repeat (first | refine blk_drewN ?_ _ | refine blk_drew ?_ | refine blk_alloc ?_ _)); exact BK209.out) hb); have n3_ := Aside0.mk (blk_below (g := gb210) (o := .cells #[.slice A2_0 l2_0.length c2_0, .int .i64 a2_1] 50 (0, 0)) (by (with_reducible repeat (first | refine blk_drewN ?_ _ | refine blk_drew ?_ | refine blk_alloc ?_ _)); exact BK210.out) hb); have n4_ := Aside0.mk (below_step (by repeat (first | (with_reducible first | exact HB.out | apply below_alloc | apply pw_below_drewN | apply below_drew1 | refine below_set ?_ GE209.out | refine below_set ?_ GE210.out) | exact HB.out)) hb); clear HO223; clear BK209; clear BK210; clear HB; have HO223 := n0_; have HO227 := n1_; have BK209 := n2_; have BK210 := n3_; have HB := n4_; clear n0_ n1_ n2_ n3_ n4_; (try clear hb); (try clear hb2); (try clear hk); (try clear hi); (try clear ho0)))
        go_ret
        exact ⟨by first | rfl | (simp [errW_none, errW_some] <;> rfl) | (simp [*, errW_none, errW_some] <;> rfl), by repeat (first | (with_reducible first | exact HB.out | apply below_alloc | apply pw_below_drewN | apply below_drew1 | refine below_set ?_ GE209.out | refine below_set ?_ GE210.out) | exact HB.out)⟩
      ·rw [if_neg c42] at H
       have c42b0 : (t224 == 0) = false := beq_eq_false_iff_ne.mpr c42
       have c42b1 : (t224 != 0) = true := bne_iff_ne.mpr c42
       obtain rfl := Option.some.inj H
       have hnb62 := NB210_209.out
       have hnc62 := NB209_210.out
       have hcz63_0 : wc.cell? ⟨gb210, 0, none⟩ = some (.slice A2_0 l2_0.length c2_0) := (blk_cell BK210.out 0).trans rfl
       have hcz63_1 : wc.cell? ⟨gb210, 1, none⟩ = some (.int .i64 a2_1) := (blk_cell BK210.out 1).trans rfl
       have hfz63_0 := blk_frozen BK210.out 0
       have hfz63_1 := blk_frozen BK210.out 1
       have hcz64_0 : wc.cell? ⟨gb209, 0, none⟩ = some (.int .i64 a0_0) := (blk_cell BK209.out 0).trans rfl
       have hcz64_1 : wc.cell? ⟨gb209, 1, none⟩ = some (.int .i64 a0_1) := (blk_cell BK209.out 1).trans rfl
       have hfz64_0 := blk_frozen BK209.out 0
       have hfz64_1 := blk_frozen BK209.out 1
       go_wp2_with (first | ((with_reducible refine gate_callee (f := 10) rfl ?_); refine goesL_ (some 54) rfl rfl Try.func10 (by kernel_rfl) rfl #[.slice A2_0 l2_0.length c2_0, .agg #[.int .i64 a0_0, .int .i64 a0_1], .int .i64 a2_1] rfl (by (try simp only [List.map_toArray, List.map_cons, List.map_nil]); first | done | rfl | (simp only [List.length_drop, List.length_take]; rfl)) ?_; (with_reducible refine (plain_Read.calls kj17 _ _ l2_0 a0_0 a0_1 a2_1 t221 t224 _ ?side1 ?side2 A41.out).mono ?_); (case side1 => repeat (first | exact (Kd.C_below HR2_0.out HB.out) | (with_reducible refine Kd.C_alloc ?_ _) | (with_reducible refine Kd.C_drewN ?_ _) | (with_reducible refine Kd.C_drew ?_))); (case side2 => exact HC2_0.out); rintro e w65 ⟨v222, rfl, ho0, hb⟩; refine ⟨_, rfl, ?_⟩; have n0_ := Aside0.mk (Kd.R_lower ho0 (below_size (by repeat (first | (with_reducible first | exact HB.out | apply below_alloc | apply pw_below_drewN | apply below_drew1 | refine below_set ?_ GE209.out | refine below_set ?_ GE210.out) | exact HB.out)))); have n1_ := Aside0.mk (blk_below (g := gb209) (o := .cells #[.int .i64 a0_0, .int .i64 a0_1] 25 (0, 0)) (by (with_reducible repeat (first | refine blk_drewN ?_ _ | refine blk_drew ?_ | refine blk_alloc ?_ _)); exact BK209.out) hb); have n2_ := Aside0.mk (blk_below (g := gb210) (o := .cells #[.slice A2_0 l2_0.length c2_0, .int .i64 a2_1] 50 (0, 0)) (by (with_reducible repeat (first | refine blk_drewN ?_ _ | refine blk_drew ?_ | refine blk_alloc ?_ _)); exact BK210.out) hb); have n3_ := Aside0.mk (below_step (by repeat (first | (with_reducible first | exact HB.out | apply below_alloc | apply pw_below_drewN | apply below_drew1 | refine below_set ?_ GE209.out | refine below_set ?_ GE210.out) | exact HB.out)) hb); clear BK209; clear BK210; clear HB; have HO223 := n0_; have BK209 := n1_; have BK210 := n2_; have HB := n3_; clear n0_ n1_ n2_ n3_; (try clear hb); (try clear hb2); (try clear hk); (try clear hi); (try clear ho0); obtain ⟨Ao66, co66, eo66⟩ := Kd.R_slice HO223.out; subst eo66))
       go_ret
       exact ⟨by first | rfl | (simp [errW_none, errW_some] <;> rfl) | (simp [*, errW_none, errW_some] <;> rfl), by repeat (first | (with_reducible first | exact HB.out | apply below_alloc | apply pw_below_drewN | apply below_drew1 | refine below_set ?_ GE209.out | refine below_set ?_ GE210.out) | exact HB.out)⟩
def marquetrylaw10_PlainBack.Pure : Prop := ∀ (a0_0 : Int) (a0_1 : Int) (l1 : List (S30)) (l2_0 : List Int) (a2_1 : Int), (Lit.int .i64 a0_0).wf = true → (Lit.int .i64 a0_1).wf = true → ((∀ x_ ∈ l1, ((Lit.int .i64 x_.f0).wf = true ∧ (Lit.int .i64 x_.f1).wf = true ∧ x_.f2.size ≤ 140737488351232)) ∧ l1.length ≤ maxLen ∧ l1.length * 32 ≤ 140737488351232) → ((∀ x_ ∈ l2_0, (Lit.int .u8 x_).wf = true) ∧ l2_0.length ≤ maxLen ∧ l2_0.length * 1 ≤ 140737488351232) → (Lit.int .i64 a2_1).wf = true → ∃ k, marquetrylaw10_PlainBack.f k a0_0 a0_1 l1 l2_0 a2_1 = some true
end Go.Proofs.Ytcklkngljapecaa.X
end

section
namespace Go.Proofs.Ytcklkngljapecaa.X
open Go.RowKit Go.Proofs.YtcklkngljapecaaW.PrintWords Go.Proofs.YtcklkngljapecaaW.PrintLast Go.Proofs.YtcklkngljapecaaW.PrintMore
attribute [local go_sem] max2_int min2_int max_two min_two max_three min_three max_four min_four
set_option linter.unusedVariables false
set_option linter.unusedSimpArgs false
def marquetryref09_Check.j0 : Nat → Int → Bool → Int → Int → Option (Bool)
 | 0, _, _, _, _ => none
 | k + 1, x4, x5, x102000, x102001 => if x5 = true then (some (x102001 == 0)) else (if x4 = 7 then (if x102001 ≥ 1 then (some (decide (x102001 ≤ 1048576))) else (some false)) else (some false))
def marquetryref09_Check.f (k : Nat) (a0_0 : Int) (a0_1 : Int) : Option (Bool) := if a0_0 = 0 then (marquetryref09_Check.j0 k a0_0 (a0_0 == 0) a0_0 a0_1) else (if a0_0 = 1 then (marquetryref09_Check.j0 k a0_0 (a0_0 == 1) a0_0 a0_1) else (if a0_0 = 2 then (marquetryref09_Check.j0 k a0_0 (a0_0 == 2) a0_0 a0_1) else (if a0_0 = 4 then (marquetryref09_Check.j0 k a0_0 (a0_0 == 4) a0_0 a0_1) else (if a0_0 = 5 then (marquetryref09_Check.j0 k a0_0 (a0_0 == 5) a0_0 a0_1) else (marquetryref09_Check.j0 k a0_0 (a0_0 == 6) a0_0 a0_1)))))
theorem marquetryref09_Check.mono_l : ∀ k, (∀ y0 y1 y2 y3, LeO (marquetryref09_Check.j0 k y0 y1 y2 y3) (marquetryref09_Check.j0 (k + 1) y0 y1 y2 y3))
 | 0 => fun _ _ _ _ r h => by simp [marquetryref09_Check.j0] at h
 | k + 1 => by
  have ih0 := marquetryref09_Check.mono_l k
  ·intro y0 y1 y2 y3
   unfold marquetryref09_Check.j0
   repeat' first
   | (with_reducible exact ih0 _ _ _ _)
   | (with_reducible exact LeO.refl _)
   | (with_reducible exact LeO.none _)
   | (with_reducible refine LeO.ite ?_ ?_)
   | (with_reducible refine LeO.bind ?_ (fun _ => ?_))
   | exact ih0 _ _ _ _
   | exact LeO.none _
   | refine LeO.ite ?_ ?_
   | refine LeO.bind ?_ (fun _ => ?_)
theorem marquetryref09_Check.mono : ∀ a0 a1 k, LeO (marquetryref09_Check.f k a0 a1) (marquetryref09_Check.f (k + 1) a0 a1) := by
 intro a0 a1 k
 have ih0 := marquetryref09_Check.mono_l k
 unfold marquetryref09_Check.f
 repeat' first
   | (with_reducible exact ih0 _ _ _ _)
   | (with_reducible exact LeO.refl _)
   | (with_reducible exact LeO.none _)
   | (with_reducible refine LeO.ite ?_ ?_)
   | (with_reducible refine LeO.bind ?_ (fun _ => ?_))
   | exact ih0 _ _ _ _
   | exact LeO.none _
   | refine LeO.ite ?_ ?_
   | refine LeO.bind ?_ (fun _ => ?_)
set_option maxHeartbeats 8000000 in
set_option maxRecDepth 100000 in
theorem marquetryref09_Check.calls (k : Nat) (a0_0 : Int) (a0_1 : Int) (r : Bool) (w : World) (h : marquetryref09_Check.f k a0_0 a0_1 = some r) :
  Calls Try.prog 8 #[.agg #[.int .i64 a0_0, .int .i64 a0_1]] w fun e w' => e = .returned (.bool r) ∧ Below w.heap.size w w' := by
 have hu25 := Try.underlying25
 have HB := Aside0.mk (Below.refl w.heap.size w)
 have H : (if a0_0 = 0 then (marquetryref09_Check.j0 k a0_0 (a0_0 == 0) a0_0 a0_1) else (if a0_0 = 1 then (marquetryref09_Check.j0 k a0_0 (a0_0 == 1) a0_0 a0_1) else (if a0_0 = 2 then (marquetryref09_Check.j0 k a0_0 (a0_0 == 2) a0_0 a0_1) else (if a0_0 = 4 then (marquetryref09_Check.j0 k a0_0 (a0_0 == 4) a0_0 a0_1) else (if a0_0 = 5 then (marquetryref09_Check.j0 k a0_0 (a0_0 == 5) a0_0 a0_1) else (marquetryref09_Check.j0 k a0_0 (a0_0 == 6) a0_0 a0_1)))))) = some r := h
 clear h
 have HC2 := Aside0.mk H
 clear H
 go_enter Try.func8, Try.ntmps8
 go_upto_if 5 with (first | ((with_reducible refine gate_dst (N := 1) rfl ?_); refine box_event ?hg (N := 1) ?hd (cs := #[.int .i64 a0_0, .int .i64 a0_1]) (t := 25) ?hr ?_; (case hd => rfl); (case hg => rfl); (case hr => first | (go_simp; done) | (go_simp; rfl)); intro gb101 hg w3 hbox hb; have n0_ := Aside0.mk (below_step (by repeat (first | (with_reducible first | exact HB.out | apply below_alloc | apply pw_below_drewN | apply below_drew1) | exact HB.out)) hb); have n1_ := Aside0.mk (hbox); have n2_ := Aside0.mk ((by rw [hg]; exact (below_size (by repeat (first | (with_reducible first | exact HB.out | apply below_alloc | apply pw_below_drewN | apply below_drew1) | exact HB.out))) : w.heap.size ≤ gb101)); have n3_ := Aside0.mk ((by rw [hg]; exact (below_size (by repeat (first | (with_reducible first | exact HB.out | apply below_alloc | apply pw_below_drewN | apply below_drew1) | exact HB.out))) : w.heap.size ≤ gb101)); clear HB; have HB := n0_; have BK101 := n1_; have GW101 := n2_; have GE101 := n3_; clear n0_ n1_ n2_ n3_; clear hb hbox hg; have hcz4_0 : w3.cell? ⟨gb101, 0, none⟩ = some (.int .i64 a0_0) := (blk_cell BK101.out 0).trans rfl; have hcz4_1 : w3.cell? ⟨gb101, 1, none⟩ = some (.int .i64 a0_1) := (blk_cell BK101.out 1).trans rfl; have hfz4_0 := blk_frozen BK101.out 0; have hfz4_1 := blk_frozen BK101.out 1))
 (try simp only [Act.put, List.setIfInBounds_toArray, List.set_cons_zero, List.set_cons_succ])
 go_cut [5] (fun v5 wc => ∃ (kq : Nat) (x5_1 : Bool), v5 = .bool x5_1 ∧ Aside0 (marquetryref09_Check.j0 kq a0_0 x5_1 a0_0 a0_1 = some r) ∧ Aside0 (kq ≤ k) ∧ Aside0 (wc.heap[gb101]? = some (.cells #[.int .i64 a0_0, .int .i64 a0_1] 25 (0, 0))) ∧ Aside0 (Below w.heap.size w wc))
 case first =>
  have H := HC2.out
  clear HC2
  by_cases c5 : a0_0 = 0
  ·rw [if_pos c5] at H
   have c5b0 : (a0_0 == 0) = true := beq_iff_eq.mpr c5
   have c5b1 : (a0_0 != 0) = false := bne_eq_false_iff_eq.mpr c5
   clear c5
   (first | rw [c5b0] | (simp only [i64_w, i32_w]; rw [c5b0]) | skip)
   have H' := Aside0.mk H
   clear H
   go_wp2
   go_meet
   case rel => exact ⟨_, ((a0_0 == 0)), (by first | rfl | (simp; done) | (simp [*]; done)), H', ⟨by first | omega | exact Nat.le_refl _⟩, ⟨by (with_reducible repeat (first | refine blk_drewN ?_ _ | refine blk_drew ?_ | refine blk_alloc ?_ _)); exact BK101.out⟩, ⟨by repeat (first | (with_reducible first | exact HB.out | apply below_alloc | apply pw_below_drewN | apply below_drew1 | refine below_set ?_ GE101.out) | exact HB.out)⟩⟩
  ·rw [if_neg c5] at H
   have c5b0 : (a0_0 == 0) = false := beq_eq_false_iff_ne.mpr c5
   have c5b1 : (a0_0 != 0) = true := bne_iff_ne.mpr c5
   (first | rw [c5b0] | (simp only [i64_w, i32_w]; rw [c5b0]) | skip)
   by_cases c6 : a0_0 = 1
   ·rw [if_pos c6] at H
    have c6b0 : (a0_0 == 1) = true := beq_iff_eq.mpr c6
    have c6b1 : (a0_0 != 1) = false := bne_eq_false_iff_eq.mpr c6
    clear c6
    have H' := Aside0.mk H
    clear H
    go_wp2
    go_meet
    case rel => exact ⟨_, ((a0_0 == 1)), (by first | rfl | (simp; done) | (simp [*]; done)), H', ⟨by first | omega | exact Nat.le_refl _⟩, ⟨by (with_reducible repeat (first | refine blk_drewN ?_ _ | refine blk_drew ?_ | refine blk_alloc ?_ _)); exact BK101.out⟩, ⟨by repeat (first | (with_reducible first | exact HB.out | apply below_alloc | apply pw_below_drewN | apply below_drew1 | refine below_set ?_ GE101.out) | exact HB.out)⟩⟩
   ·rw [if_neg c6] at H
    have c6b0 : (a0_0 == 1) = false := beq_eq_false_iff_ne.mpr c6
    have c6b1 : (a0_0 != 1) = true := bne_iff_ne.mpr c6
    by_cases c7 : a0_0 = 2
    ·rw [if_pos c7] at H
     have c7b0 : (a0_0 == 2) = true := beq_iff_eq.mpr c7
     have c7b1 : (a0_0 != 2) = false := bne_eq_false_iff_eq.mpr c7
     clear c7
     have H' := Aside0.mk H
     clear H
     go_wp2
     go_meet
     case rel => exact ⟨_, ((a0_0 == 2)), (by first | rfl | (simp; done) | (simp [*]; done)), H', ⟨by first | omega | exact Nat.le_refl _⟩, ⟨by (with_reducible repeat (first | refine blk_drewN ?_ _ | refine blk_drew ?_ | refine blk_alloc ?_ _)); exact BK101.out⟩, ⟨by repeat (first | (with_reducible first | exact HB.out | apply below_alloc | apply pw_below_drewN | apply below_drew1 | refine below_set ?_ GE101.out) | exact HB.out)⟩⟩
    ·rw [if_neg c7] at H
     have c7b0 : (a0_0 == 2) = false := beq_eq_false_iff_ne.mpr c7
     have c7b1 : (a0_0 != 2) = true := bne_iff_ne.mpr c7
     by_cases c8 : a0_0 = 4
     ·rw [if_pos c8] at H
      have c8b0 : (a0_0 == 4) = true := beq_iff_eq.mpr c8
      have c8b1 : (a0_0 != 4) = false := bne_eq_false_iff_eq.mpr c8
      clear c8
      have H' := Aside0.mk H
      clear H
      go_wp2
      go_meet
      case rel => exact ⟨_, ((a0_0 == 4)), (by first | rfl | (simp; done) | (simp [*]; done)), H', ⟨by first | omega | exact Nat.le_refl _⟩, ⟨by (with_reducible repeat (first | refine blk_drewN ?_ _ | refine blk_drew ?_ | refine blk_alloc ?_ _)); exact BK101.out⟩, ⟨by repeat (first | (with_reducible first | exact HB.out | apply below_alloc | apply pw_below_drewN | apply below_drew1 | refine below_set ?_ GE101.out) | exact HB.out)⟩⟩
     ·rw [if_neg c8] at H
      have c8b0 : (a0_0 == 4) = false := beq_eq_false_iff_ne.mpr c8
      have c8b1 : (a0_0 != 4) = true := bne_iff_ne.mpr c8
      by_cases c9 : a0_0 = 5
      ·rw [if_pos c9] at H
       have c9b0 : (a0_0 == 5) = true := beq_iff_eq.mpr c9
       have c9b1 : (a0_0 != 5) = false := bne_eq_false_iff_eq.mpr c9
       clear c9
       have H' := Aside0.mk H
       clear H
       go_wp2
       go_meet
       case rel => exact ⟨_, ((a0_0 == 5)), (by first | rfl | (simp; done) | (simp [*]; done)), H', ⟨by first | omega | exact Nat.le_refl _⟩, ⟨by (with_reducible repeat (first | refine blk_drewN ?_ _ | refine blk_drew ?_ | refine blk_alloc ?_ _)); exact BK101.out⟩, ⟨by repeat (first | (with_reducible first | exact HB.out | apply below_alloc | apply pw_below_drewN | apply below_drew1 | refine below_set ?_ GE101.out) | exact HB.out)⟩⟩
      ·rw [if_neg c9] at H
       have c9b0 : (a0_0 == 5) = false := beq_eq_false_iff_ne.mpr c9
       have c9b1 : (a0_0 != 5) = true := bne_iff_ne.mpr c9
       have H' := Aside0.mk H
       clear H
       go_wp2
       go_meet
       case rel => exact ⟨_, ((a0_0 == 6)), (by first | rfl | (simp; done) | (simp [*]; done)), H', ⟨by first | omega | exact Nat.le_refl _⟩, ⟨by (with_reducible repeat (first | refine blk_drewN ?_ _ | refine blk_drew ?_ | refine blk_alloc ?_ _)); exact BK101.out⟩, ⟨by repeat (first | (with_reducible first | exact HB.out | apply below_alloc | apply pw_below_drewN | apply below_drew1 | refine below_set ?_ GE101.out) | exact HB.out)⟩⟩
 case rest =>
  clear HC2
  try clear p2
  try clear c5
  try clear c5b0
  try clear c5b1
  try clear c6
  try clear c6b0
  try clear c6b1
  try clear c7
  try clear c7b0
  try clear c7b1
  try clear c8
  try clear c8b0
  try clear c8b1
  try clear c9
  try clear c9b0
  try clear c9b1
  try clear hcz4_0
  try clear hcz4_1
  try clear hfz4_0
  try clear hfz4_1
  obtain ⟨kq, x5_1, rfl, HA, HJ1, BK101, HB⟩ := hcut
  cases kq with
  | zero => exact absurd HA.out (by simp [marquetryref09_Check.j0])
  | succ kj1 =>
   have H := HA.out
   clear HA
   simp only [marquetryref09_Check.j0] at H
   by_cases c10 : x5_1 = true
   ·subst c10
    have H1 : (some (a0_1 == 0)) = some r := by rw [if_pos rfl] at H; exact H
    clear H
    have H := H1
    clear H1
    obtain rfl := Option.some.inj H
    have hcz11_0 : wc.cell? ⟨gb101, 0, none⟩ = some (.int .i64 a0_0) := (blk_cell BK101.out 0).trans rfl
    have hcz11_1 : wc.cell? ⟨gb101, 1, none⟩ = some (.int .i64 a0_1) := (blk_cell BK101.out 1).trans rfl
    have hfz11_0 := blk_frozen BK101.out 0
    have hfz11_1 := blk_frozen BK101.out 1
    go_wp2
    go_ret
    exact ⟨by first | rfl | (simp [errW_none, errW_some] <;> rfl) | (simp [*, errW_none, errW_some] <;> rfl), by repeat (first | (with_reducible first | exact HB.out | apply below_alloc | apply pw_below_drewN | apply below_drew1 | refine below_set ?_ GE101.out) | exact HB.out)⟩
   ·replace c10 := Bool.eq_false_iff.mpr c10
    subst c10
    have H1 : (if a0_0 = 7 then (if a0_1 ≥ 1 then (some (decide (a0_1 ≤ 1048576))) else (some false)) else (some false)) = some r := by rw [if_neg (show ¬ (false = true) by decide)] at H; exact H
    clear H
    have H := H1
    clear H1
    by_cases c12 : a0_0 = 7
    ·rw [if_pos c12] at H
     have c12b0 : (a0_0 == 7) = true := beq_iff_eq.mpr c12
     have c12b1 : (a0_0 != 7) = false := bne_eq_false_iff_eq.mpr c12
     clear c12
     by_cases c13 : a0_1 ≥ 1
     ·rw [if_pos c13] at H
      have c13b0 : decide (1 ≤ a0_1) = true := decide_eq_true c13
      clear c13
      obtain rfl := Option.some.inj H
      have hcz14_0 : wc.cell? ⟨gb101, 0, none⟩ = some (.int .i64 a0_0) := (blk_cell BK101.out 0).trans rfl
      have hcz14_1 : wc.cell? ⟨gb101, 1, none⟩ = some (.int .i64 a0_1) := (blk_cell BK101.out 1).trans rfl
      have hfz14_0 := blk_frozen BK101.out 0
      have hfz14_1 := blk_frozen BK101.out 1
      go_wp2
      go_ret
      exact ⟨by first | rfl | (simp [errW_none, errW_some] <;> rfl) | (simp [*, errW_none, errW_some] <;> rfl), by repeat (first | (with_reducible first | exact HB.out | apply below_alloc | apply pw_below_drewN | apply below_drew1 | refine below_set ?_ GE101.out) | exact HB.out)⟩
     ·rw [if_neg c13] at H
      have c13b0 : decide (1 ≤ a0_1) = false := decide_eq_false c13
      clear c13
      obtain rfl := Option.some.inj H
      have hcz15_0 : wc.cell? ⟨gb101, 0, none⟩ = some (.int .i64 a0_0) := (blk_cell BK101.out 0).trans rfl
      have hcz15_1 : wc.cell? ⟨gb101, 1, none⟩ = some (.int .i64 a0_1) := (blk_cell BK101.out 1).trans rfl
      have hfz15_0 := blk_frozen BK101.out 0
      have hfz15_1 := blk_frozen BK101.out 1
      go_wp2
      go_ret
      exact ⟨by first | rfl | (simp [errW_none, errW_some] <;> rfl) | (simp [*, errW_none, errW_some] <;> rfl), by repeat (first | (with_reducible first | exact HB.out | apply below_alloc | apply pw_below_drewN | apply below_drew1 | refine below_set ?_ GE101.out) | exact HB.out)⟩
    ·rw [if_neg c12] at H
     have c12b0 : (a0_0 == 7) = false := beq_eq_false_iff_ne.mpr c12
     have c12b1 : (a0_0 != 7) = true := bne_iff_ne.mpr c12
     obtain rfl := Option.some.inj H
     go_wp2
     go_ret
     exact ⟨by first | rfl | (simp [errW_none, errW_some] <;> rfl) | (simp [*, errW_none, errW_some] <;> rfl), by repeat (first | (with_reducible first | exact HB.out | apply below_alloc | apply pw_below_drewN | apply below_drew1 | refine below_set ?_ GE101.out) | exact HB.out)⟩
end Go.Proofs.Ytcklkngljapecaa.X
end

section
namespace Go.Proofs.Ytcklkngljapecaa.X
open Go.RowKit Go.Proofs.YtcklkngljapecaaW.PrintWords Go.Proofs.YtcklkngljapecaaW.PrintLast Go.Proofs.YtcklkngljapecaaW.PrintMore
attribute [local go_sem] max2_int min2_int max_two min_two max_three min_three max_four min_four
set_option linter.unusedVariables false
set_option linter.unusedSimpArgs false
def marquetryref09_Fine.j0 : Nat → Int → Bool → Int → Int → ByteArray → Option (Bool)
 | 0, _, _, _, _, _ => none
 | k + 1, x3, x11, x157000, x157001, x157002 => if x11 = true then (if x157001 = 0 then (if (x157002.size : Int) ≤ 1048576 then (if x3 = 6 then (some true) else (some (decide ((x157002.size : Int) > 0)))) else (some false)) else (some false)) else (if x157002.toList = ([] : List UInt8) then (if x3 = 0 then (if x157001 = 0 then (some true) else (some (x157001 == 1))) else (if x3 = 1 then (if x157001 ≥ (-2147483648) then (some (decide (x157001 ≤ 2147483647))) else (some false)) else (if x3 = 4 then (if x157001 ≥ 0 then (some (decide (x157001 ≤ 4294967295))) else (some false)) else (if x3 = 2 then (some true) else (some (x3 == 5)))))) else (some false))
def marquetryref09_Fine.f (k : Nat) (a0_0 : Int) (a0_1 : Int) (a0_2 : ByteArray) : Option (Bool) := if a0_0 = 6 then (marquetryref09_Fine.j0 k a0_0 true a0_0 a0_1 a0_2) else (marquetryref09_Fine.j0 k a0_0 (a0_0 == 7) a0_0 a0_1 a0_2)
theorem marquetryref09_Fine.mono_l : ∀ k, (∀ y0 y1 y2 y3 y4, LeO (marquetryref09_Fine.j0 k y0 y1 y2 y3 y4) (marquetryref09_Fine.j0 (k + 1) y0 y1 y2 y3 y4))
 | 0 => fun _ _ _ _ _ r h => by simp [marquetryref09_Fine.j0] at h
 | k + 1 => by
  have ih0 := marquetryref09_Fine.mono_l k
  ·intro y0 y1 y2 y3 y4
   unfold marquetryref09_Fine.j0
   repeat' first
   | (with_reducible exact ih0 _ _ _ _ _)
   | (with_reducible exact LeO.refl _)
   | (with_reducible exact LeO.none _)
   | (with_reducible refine LeO.ite ?_ ?_)
   | (with_reducible refine LeO.bind ?_ (fun _ => ?_))
   | exact ih0 _ _ _ _ _
   | exact LeO.none _
   | refine LeO.ite ?_ ?_
   | refine LeO.bind ?_ (fun _ => ?_)
theorem marquetryref09_Fine.mono : ∀ a0 a1 a2 k, LeO (marquetryref09_Fine.f k a0 a1 a2) (marquetryref09_Fine.f (k + 1) a0 a1 a2) := by
 intro a0 a1 a2 k
 have ih0 := marquetryref09_Fine.mono_l k
 unfold marquetryref09_Fine.f
 repeat' first
   | (with_reducible exact ih0 _ _ _ _ _)
   | (with_reducible exact LeO.refl _)
   | (with_reducible exact LeO.none _)
   | (with_reducible refine LeO.ite ?_ ?_)
   | (with_reducible refine LeO.bind ?_ (fun _ => ?_))
   | exact ih0 _ _ _ _ _
   | exact LeO.none _
   | refine LeO.ite ?_ ?_
   | refine LeO.bind ?_ (fun _ => ?_)
set_option maxHeartbeats 8000000 in
set_option maxRecDepth 100000 in
theorem marquetryref09_Fine.calls (k : Nat) (a0_0 : Int) (a0_1 : Int) (a0_2 : ByteArray) (r : Bool) (w : World) (h : marquetryref09_Fine.f k a0_0 a0_1 a0_2 = some r) :
  Calls Try.prog 63 #[.agg #[.int .i64 a0_0, .int .i64 a0_1, .string a0_2]] w fun e w' => e = .returned (.bool r) ∧ Below w.heap.size w w' := by
 have hu30 := Try.underlying30
 have HB := Aside0.mk (Below.refl w.heap.size w)
 have H : (if a0_0 = 6 then (marquetryref09_Fine.j0 k a0_0 true a0_0 a0_1 a0_2) else (marquetryref09_Fine.j0 k a0_0 (a0_0 == 7) a0_0 a0_1 a0_2)) = some r := h
 clear h
 have HC2 := Aside0.mk H
 clear H
 go_enter Try.func63, Try.ntmps63
 go_upto_region 2 with (first | ((with_reducible refine gate_dst (N := 1) rfl ?_); (try (refine gate_guard (by rfl) ?_; dsimp only)); refine box_event ?hg (N := 1) ?hd (cs := #[.int .i64 a0_0, .int .i64 a0_1, .string a0_2]) (t := 30) ?hr ?_; (case hd => rfl); (case hg => rfl); (case hr => first | (go_simp; done) | (go_simp; rfl)); intro gb156 hg w3 hbox hb; have n0_ := Aside0.mk (below_step (by repeat (first | (with_reducible first | exact HB.out | apply below_alloc | apply pw_below_drewN | apply below_drew1) | exact HB.out)) hb); have n1_ := Aside0.mk (hbox); have n2_ := Aside0.mk ((by rw [hg]; exact (below_size (by repeat (first | (with_reducible first | exact HB.out | apply below_alloc | apply pw_below_drewN | apply below_drew1) | exact HB.out))) : w.heap.size ≤ gb156)); have n3_ := Aside0.mk ((by rw [hg]; exact (below_size (by repeat (first | (with_reducible first | exact HB.out | apply below_alloc | apply pw_below_drewN | apply below_drew1) | exact HB.out))) : w.heap.size ≤ gb156)); clear HB; have HB := n0_; have BK156 := n1_; have GW156 := n2_; have GE156 := n3_; clear n0_ n1_ n2_ n3_; clear hb hbox hg; have hcz4_0 : w3.cell? ⟨gb156, 0, none⟩ = some (.int .i64 a0_0) := (blk_cell BK156.out 0).trans rfl; have hcz4_1 : w3.cell? ⟨gb156, 1, none⟩ = some (.int .i64 a0_1) := (blk_cell BK156.out 1).trans rfl; have hcz4_2 : w3.cell? ⟨gb156, 2, none⟩ = some (.string a0_2) := (blk_cell BK156.out 2).trans rfl; have hfz4_0 := blk_frozen BK156.out 0; have hfz4_1 := blk_frozen BK156.out 1; have hfz4_2 := blk_frozen BK156.out 2))
 (try simp only [Act.put, List.setIfInBounds_toArray, List.set_cons_zero, List.set_cons_succ])
 go_cut [11] (fun v11 wc => ∃ (kq : Nat) (x11_1 : Bool), v11 = .bool x11_1 ∧ Aside0 (marquetryref09_Fine.j0 kq a0_0 x11_1 a0_0 a0_1 a0_2 = some r) ∧ Aside0 (kq ≤ k) ∧ Aside0 (wc.heap[gb156]? = some (.cells #[.int .i64 a0_0, .int .i64 a0_1, .string a0_2] 30 (0, 0))) ∧ Aside0 (Below w.heap.size w wc))
 case first =>
  have H := HC2.out
  clear HC2
  by_cases c5 : a0_0 = 6
  ·rw [if_pos c5] at H
   have c5b0 : (a0_0 == 6) = true := beq_iff_eq.mpr c5
   have c5b1 : (a0_0 != 6) = false := bne_eq_false_iff_eq.mpr c5
   clear c5
   (first | rw [c5b0] | (simp only [i64_w, i32_w]; rw [c5b0]) | skip)
   have H' := Aside0.mk H
   clear H
   go_wp2
   go_meet
   case rel => exact ⟨_, (true), (by first | rfl | (simp; done) | (simp [*]; done)), H', ⟨by first | omega | exact Nat.le_refl _⟩, ⟨by (with_reducible repeat (first | refine blk_drewN ?_ _ | refine blk_drew ?_ | refine blk_alloc ?_ _)); exact BK156.out⟩, ⟨by repeat (first | (with_reducible first | exact HB.out | apply below_alloc | apply pw_below_drewN | apply below_drew1 | refine below_set ?_ GE156.out) | exact HB.out)⟩⟩
  ·rw [if_neg c5] at H
   have c5b0 : (a0_0 == 6) = false := beq_eq_false_iff_ne.mpr c5
   have c5b1 : (a0_0 != 6) = true := bne_iff_ne.mpr c5
   (first | rw [c5b0] | (simp only [i64_w, i32_w]; rw [c5b0]) | skip)
   have H' := Aside0.mk H
   clear H
   go_wp2
   go_meet
   case rel => exact ⟨_, ((a0_0 == 7)), (by first | rfl | (simp; done) | (simp [*]; done)), H', ⟨by first | omega | exact Nat.le_refl _⟩, ⟨by (with_reducible repeat (first | refine blk_drewN ?_ _ | refine blk_drew ?_ | refine blk_alloc ?_ _)); exact BK156.out⟩, ⟨by repeat (first | (with_reducible first | exact HB.out | apply below_alloc | apply pw_below_drewN | apply below_drew1 | refine below_set ?_ GE156.out) | exact HB.out)⟩⟩
 case rest =>
  clear HC2
  try clear p2
  try clear c5
  try clear c5b0
  try clear c5b1
  try clear hcz4_0
  try clear hcz4_1
  try clear hcz4_2
  try clear hfz4_0
  try clear hfz4_1
  try clear hfz4_2
  obtain ⟨kq, x11_1, rfl, HA, HJ1, BK156, HB⟩ := hcut
  cases kq with
  | zero => exact absurd HA.out (by simp [marquetryref09_Fine.j0])
  | succ kj1 =>
   have H := HA.out
   clear HA
   simp only [marquetryref09_Fine.j0] at H
   by_cases c6 : x11_1 = true
   ·subst c6
    have H1 : (if a0_1 = 0 then (if (a0_2.size : Int) ≤ 1048576 then (if a0_0 = 6 then (some true) else (some (decide ((a0_2.size : Int) > 0)))) else (some false)) else (some false)) = some r := by rw [if_pos rfl] at H; exact H
    clear H
    have H := H1
    clear H1
    by_cases c7 : a0_1 = 0
    ·rw [if_pos c7] at H
     have c7b0 : (a0_1 == 0) = true := beq_iff_eq.mpr c7
     have c7b1 : (a0_1 != 0) = false := bne_eq_false_iff_eq.mpr c7
     clear c7
     by_cases c8 : (a0_2.size : Int) ≤ 1048576
     ·rw [if_pos c8] at H
      have c8b0 : decide ((a0_2.size : Int) ≤ 1048576) = true := decide_eq_true c8
      have c8b1 : decide (a0_2.size ≤ 1048576) = true := decide_eq_true (by omega)
      clear c8
      by_cases c9 : a0_0 = 6
      ·rw [if_pos c9] at H
       have c9b0 : (a0_0 == 6) = true := beq_iff_eq.mpr c9
       have c9b1 : (a0_0 != 6) = false := bne_eq_false_iff_eq.mpr c9
       clear c9
       obtain rfl := Option.some.inj H
       have hcz10_0 : wc.cell? ⟨gb156, 0, none⟩ = some (.int .i64 a0_0) := (blk_cell BK156.out 0).trans rfl
       have hcz10_1 : wc.cell? ⟨gb156, 1, none⟩ = some (.int .i64 a0_1) := (blk_cell BK156.out 1).trans rfl
       have hcz10_2 : wc.cell? ⟨gb156, 2, none⟩ = some (.string a0_2) := (blk_cell BK156.out 2).trans rfl
       have hfz10_0 := blk_frozen BK156.out 0
       have hfz10_1 := blk_frozen BK156.out 1
       have hfz10_2 := blk_frozen BK156.out 2
       go_wp2
       go_ret
       exact ⟨by first | rfl | (simp [errW_none, errW_some] <;> rfl) | (simp [*, errW_none, errW_some] <;> rfl), by repeat (first | (with_reducible first | exact HB.out | apply below_alloc | apply pw_below_drewN | apply below_drew1 | refine below_set ?_ GE156.out) | exact HB.out)⟩
      ·rw [if_neg c9] at H
       have c9b0 : (a0_0 == 6) = false := beq_eq_false_iff_ne.mpr c9
       have c9b1 : (a0_0 != 6) = true := bne_iff_ne.mpr c9
       obtain rfl := Option.some.inj H
       have hcz11_0 : wc.cell? ⟨gb156, 0, none⟩ = some (.int .i64 a0_0) := (blk_cell BK156.out 0).trans rfl
       have hcz11_1 : wc.cell? ⟨gb156, 1, none⟩ = some (.int .i64 a0_1) := (blk_cell BK156.out 1).trans rfl
       have hcz11_2 : wc.cell? ⟨gb156, 2, none⟩ = some (.string a0_2) := (blk_cell BK156.out 2).trans rfl
       have hfz11_0 := blk_frozen BK156.out 0
       have hfz11_1 := blk_frozen BK156.out 1
       have hfz11_2 := blk_frozen BK156.out 2
       go_wp2
       go_ret
       exact ⟨by first | rfl | (simp [errW_none, errW_some] <;> rfl) | (simp [*, errW_none, errW_some] <;> rfl), by repeat (first | (with_reducible first | exact HB.out | apply below_alloc | apply pw_below_drewN | apply below_drew1 | refine below_set ?_ GE156.out) | exact HB.out)⟩
     ·rw [if_neg c8] at H
      have c8b0 : decide ((a0_2.size : Int) ≤ 1048576) = false := decide_eq_false c8
      have c8b1 : decide (a0_2.size ≤ 1048576) = false := decide_eq_false (by omega)
      clear c8
      obtain rfl := Option.some.inj H
      have hcz12_0 : wc.cell? ⟨gb156, 0, none⟩ = some (.int .i64 a0_0) := (blk_cell BK156.out 0).trans rfl
      have hcz12_1 : wc.cell? ⟨gb156, 1, none⟩ = some (.int .i64 a0_1) := (blk_cell BK156.out 1).trans rfl
      have hcz12_2 : wc.cell? ⟨gb156, 2, none⟩ = some (.string a0_2) := (blk_cell BK156.out 2).trans rfl
      have hfz12_0 := blk_frozen BK156.out 0
      have hfz12_1 := blk_frozen BK156.out 1
      have hfz12_2 := blk_frozen BK156.out 2
      go_wp2
      go_ret
      exact ⟨by first | rfl | (simp [errW_none, errW_some] <;> rfl) | (simp [*, errW_none, errW_some] <;> rfl), by repeat (first | (with_reducible first | exact HB.out | apply below_alloc | apply pw_below_drewN | apply below_drew1 | refine below_set ?_ GE156.out) | exact HB.out)⟩
    ·rw [if_neg c7] at H
     have c7b0 : (a0_1 == 0) = false := beq_eq_false_iff_ne.mpr c7
     have c7b1 : (a0_1 != 0) = true := bne_iff_ne.mpr c7
     obtain rfl := Option.some.inj H
     have hcz13_0 : wc.cell? ⟨gb156, 0, none⟩ = some (.int .i64 a0_0) := (blk_cell BK156.out 0).trans rfl
     have hcz13_1 : wc.cell? ⟨gb156, 1, none⟩ = some (.int .i64 a0_1) := (blk_cell BK156.out 1).trans rfl
     have hcz13_2 : wc.cell? ⟨gb156, 2, none⟩ = some (.string a0_2) := (blk_cell BK156.out 2).trans rfl
     have hfz13_0 := blk_frozen BK156.out 0
     have hfz13_1 := blk_frozen BK156.out 1
     have hfz13_2 := blk_frozen BK156.out 2
     go_wp2
     go_ret
     exact ⟨by first | rfl | (simp [errW_none, errW_some] <;> rfl) | (simp [*, errW_none, errW_some] <;> rfl), by repeat (first | (with_reducible first | exact HB.out | apply below_alloc | apply pw_below_drewN | apply below_drew1 | refine below_set ?_ GE156.out) | exact HB.out)⟩
   ·replace c6 := Bool.eq_false_iff.mpr c6
    subst c6
    have H1 : (if a0_2.toList = ([] : List UInt8) then (if a0_0 = 0 then (if a0_1 = 0 then (some true) else (some (a0_1 == 1))) else (if a0_0 = 1 then (if a0_1 ≥ (-2147483648) then (some (decide (a0_1 ≤ 2147483647))) else (some false)) else (if a0_0 = 4 then (if a0_1 ≥ 0 then (some (decide (a0_1 ≤ 4294967295))) else (some false)) else (if a0_0 = 2 then (some true) else (some (a0_0 == 5)))))) else (some false)) = some r := by rw [if_neg (show ¬ (false = true) by decide)] at H; exact H
    clear H
    have H := H1
    clear H1
    by_cases c14 : a0_2.toList = ([] : List UInt8)
    ·rw [if_pos c14] at H
     have c14b0 : (a0_2.toList == ([] : List UInt8)) = true := beq_iff_eq.mpr c14
     have c14b1 : (a0_2.toList != ([] : List UInt8)) = false := bne_eq_false_iff_eq.mpr c14
     clear c14
     by_cases c15 : a0_0 = 0
     ·rw [if_pos c15] at H
      have c15b0 : (a0_0 == 0) = true := beq_iff_eq.mpr c15
      have c15b1 : (a0_0 != 0) = false := bne_eq_false_iff_eq.mpr c15
      clear c15
      by_cases c16 : a0_1 = 0
      ·rw [if_pos c16] at H
       have c16b0 : (a0_1 == 0) = true := beq_iff_eq.mpr c16
       have c16b1 : (a0_1 != 0) = false := bne_eq_false_iff_eq.mpr c16
       clear c16
       obtain rfl := Option.some.inj H
       have hcz17_0 : wc.cell? ⟨gb156, 0, none⟩ = some (.int .i64 a0_0) := (blk_cell BK156.out 0).trans rfl
       have hcz17_1 : wc.cell? ⟨gb156, 1, none⟩ = some (.int .i64 a0_1) := (blk_cell BK156.out 1).trans rfl
       have hcz17_2 : wc.cell? ⟨gb156, 2, none⟩ = some (.string a0_2) := (blk_cell BK156.out 2).trans rfl
       have hfz17_0 := blk_frozen BK156.out 0
       have hfz17_1 := blk_frozen BK156.out 1
       have hfz17_2 := blk_frozen BK156.out 2
       go_wp2
       go_ret
       exact ⟨by first | rfl | (simp [errW_none, errW_some] <;> rfl) | (simp [*, errW_none, errW_some] <;> rfl), by repeat (first | (with_reducible first | exact HB.out | apply below_alloc | apply pw_below_drewN | apply below_drew1 | refine below_set ?_ GE156.out) | exact HB.out)⟩
      ·rw [if_neg c16] at H
       have c16b0 : (a0_1 == 0) = false := beq_eq_false_iff_ne.mpr c16
       have c16b1 : (a0_1 != 0) = true := bne_iff_ne.mpr c16
       obtain rfl := Option.some.inj H
       have hcz18_0 : wc.cell? ⟨gb156, 0, none⟩ = some (.int .i64 a0_0) := (blk_cell BK156.out 0).trans rfl
       have hcz18_1 : wc.cell? ⟨gb156, 1, none⟩ = some (.int .i64 a0_1) := (blk_cell BK156.out 1).trans rfl
       have hcz18_2 : wc.cell? ⟨gb156, 2, none⟩ = some (.string a0_2) := (blk_cell BK156.out 2).trans rfl
       have hfz18_0 := blk_frozen BK156.out 0
       have hfz18_1 := blk_frozen BK156.out 1
       have hfz18_2 := blk_frozen BK156.out 2
       go_wp2
       go_ret
       exact ⟨by first | rfl | (simp [errW_none, errW_some] <;> rfl) | (simp [*, errW_none, errW_some] <;> rfl), by repeat (first | (with_reducible first | exact HB.out | apply below_alloc | apply pw_below_drewN | apply below_drew1 | refine below_set ?_ GE156.out) | exact HB.out)⟩
     ·rw [if_neg c15] at H
      have c15b0 : (a0_0 == 0) = false := beq_eq_false_iff_ne.mpr c15
      have c15b1 : (a0_0 != 0) = true := bne_iff_ne.mpr c15
      by_cases c19 : a0_0 = 1
      ·rw [if_pos c19] at H
       have c19b0 : (a0_0 == 1) = true := beq_iff_eq.mpr c19
       have c19b1 : (a0_0 != 1) = false := bne_eq_false_iff_eq.mpr c19
       clear c19
       by_cases c20 : a0_1 ≥ (-2147483648)
       ·rw [if_pos c20] at H
        have c20b0 : decide ((-2147483648) ≤ a0_1) = true := decide_eq_true c20
        clear c20
        obtain rfl := Option.some.inj H
        have hcz21_0 : wc.cell? ⟨gb156, 0, none⟩ = some (.int .i64 a0_0) := (blk_cell BK156.out 0).trans rfl
        have hcz21_1 : wc.cell? ⟨gb156, 1, none⟩ = some (.int .i64 a0_1) := (blk_cell BK156.out 1).trans rfl
        have hcz21_2 : wc.cell? ⟨gb156, 2, none⟩ = some (.string a0_2) := (blk_cell BK156.out 2).trans rfl
        have hfz21_0 := blk_frozen BK156.out 0
        have hfz21_1 := blk_frozen BK156.out 1
        have hfz21_2 := blk_frozen BK156.out 2
        go_wp2
        go_ret
        exact ⟨by first | rfl | (simp [errW_none, errW_some] <;> rfl) | (simp [*, errW_none, errW_some] <;> rfl), by repeat (first | (with_reducible first | exact HB.out | apply below_alloc | apply pw_below_drewN | apply below_drew1 | refine below_set ?_ GE156.out) | exact HB.out)⟩
       ·rw [if_neg c20] at H
        have c20b0 : decide ((-2147483648) ≤ a0_1) = false := decide_eq_false c20
        clear c20
        obtain rfl := Option.some.inj H
        have hcz22_0 : wc.cell? ⟨gb156, 0, none⟩ = some (.int .i64 a0_0) := (blk_cell BK156.out 0).trans rfl
        have hcz22_1 : wc.cell? ⟨gb156, 1, none⟩ = some (.int .i64 a0_1) := (blk_cell BK156.out 1).trans rfl
        have hcz22_2 : wc.cell? ⟨gb156, 2, none⟩ = some (.string a0_2) := (blk_cell BK156.out 2).trans rfl
        have hfz22_0 := blk_frozen BK156.out 0
        have hfz22_1 := blk_frozen BK156.out 1
        have hfz22_2 := blk_frozen BK156.out 2
        go_wp2
        go_ret
        exact ⟨by first | rfl | (simp [errW_none, errW_some] <;> rfl) | (simp [*, errW_none, errW_some] <;> rfl), by repeat (first | (with_reducible first | exact HB.out | apply below_alloc | apply pw_below_drewN | apply below_drew1 | refine below_set ?_ GE156.out) | exact HB.out)⟩
      ·rw [if_neg c19] at H
       have c19b0 : (a0_0 == 1) = false := beq_eq_false_iff_ne.mpr c19
       have c19b1 : (a0_0 != 1) = true := bne_iff_ne.mpr c19
       by_cases c23 : a0_0 = 4
       ·rw [if_pos c23] at H
        have c23b0 : (a0_0 == 4) = true := beq_iff_eq.mpr c23
        have c23b1 : (a0_0 != 4) = false := bne_eq_false_iff_eq.mpr c23
        clear c23
        by_cases c24 : a0_1 ≥ 0
        ·rw [if_pos c24] at H
         have c24b0 : decide (0 ≤ a0_1) = true := decide_eq_true c24
         clear c24
         obtain rfl := Option.some.inj H
         have hcz25_0 : wc.cell? ⟨gb156, 0, none⟩ = some (.int .i64 a0_0) := (blk_cell BK156.out 0).trans rfl
         have hcz25_1 : wc.cell? ⟨gb156, 1, none⟩ = some (.int .i64 a0_1) := (blk_cell BK156.out 1).trans rfl
         have hcz25_2 : wc.cell? ⟨gb156, 2, none⟩ = some (.string a0_2) := (blk_cell BK156.out 2).trans rfl
         have hfz25_0 := blk_frozen BK156.out 0
         have hfz25_1 := blk_frozen BK156.out 1
         have hfz25_2 := blk_frozen BK156.out 2
         go_wp2
         go_ret
         exact ⟨by first | rfl | (simp [errW_none, errW_some] <;> rfl) | (simp [*, errW_none, errW_some] <;> rfl), by repeat (first | (with_reducible first | exact HB.out | apply below_alloc | apply pw_below_drewN | apply below_drew1 | refine below_set ?_ GE156.out) | exact HB.out)⟩
        ·rw [if_neg c24] at H
         have c24b0 : decide (0 ≤ a0_1) = false := decide_eq_false c24
         clear c24
         obtain rfl := Option.some.inj H
         have hcz26_0 : wc.cell? ⟨gb156, 0, none⟩ = some (.int .i64 a0_0) := (blk_cell BK156.out 0).trans rfl
         have hcz26_1 : wc.cell? ⟨gb156, 1, none⟩ = some (.int .i64 a0_1) := (blk_cell BK156.out 1).trans rfl
         have hcz26_2 : wc.cell? ⟨gb156, 2, none⟩ = some (.string a0_2) := (blk_cell BK156.out 2).trans rfl
         have hfz26_0 := blk_frozen BK156.out 0
         have hfz26_1 := blk_frozen BK156.out 1
         have hfz26_2 := blk_frozen BK156.out 2
         go_wp2
         go_ret
         exact ⟨by first | rfl | (simp [errW_none, errW_some] <;> rfl) | (simp [*, errW_none, errW_some] <;> rfl), by repeat (first | (with_reducible first | exact HB.out | apply below_alloc | apply pw_below_drewN | apply below_drew1 | refine below_set ?_ GE156.out) | exact HB.out)⟩
       ·rw [if_neg c23] at H
        have c23b0 : (a0_0 == 4) = false := beq_eq_false_iff_ne.mpr c23
        have c23b1 : (a0_0 != 4) = true := bne_iff_ne.mpr c23
        by_cases c27 : a0_0 = 2
        ·rw [if_pos c27] at H
         have c27b0 : (a0_0 == 2) = true := beq_iff_eq.mpr c27
         have c27b1 : (a0_0 != 2) = false := bne_eq_false_iff_eq.mpr c27
         clear c27
         obtain rfl := Option.some.inj H
         have hcz28_0 : wc.cell? ⟨gb156, 0, none⟩ = some (.int .i64 a0_0) := (blk_cell BK156.out 0).trans rfl
         have hcz28_1 : wc.cell? ⟨gb156, 1, none⟩ = some (.int .i64 a0_1) := (blk_cell BK156.out 1).trans rfl
         have hcz28_2 : wc.cell? ⟨gb156, 2, none⟩ = some (.string a0_2) := (blk_cell BK156.out 2).trans rfl
         have hfz28_0 := blk_frozen BK156.out 0
         have hfz28_1 := blk_frozen BK156.out 1
         have hfz28_2 := blk_frozen BK156.out 2
         go_wp2
         go_ret
         exact ⟨by first | rfl | (simp [errW_none, errW_some] <;> rfl) | (simp [*, errW_none, errW_some] <;> rfl), by repeat (first | (with_reducible first | exact HB.out | apply below_alloc | apply pw_below_drewN | apply below_drew1 | refine below_set ?_ GE156.out) | exact HB.out)⟩
        ·rw [if_neg c27] at H
         have c27b0 : (a0_0 == 2) = false := beq_eq_false_iff_ne.mpr c27
         have c27b1 : (a0_0 != 2) = true := bne_iff_ne.mpr c27
         obtain rfl := Option.some.inj H
         have hcz29_0 : wc.cell? ⟨gb156, 0, none⟩ = some (.int .i64 a0_0) := (blk_cell BK156.out 0).trans rfl
         have hcz29_1 : wc.cell? ⟨gb156, 1, none⟩ = some (.int .i64 a0_1) := (blk_cell BK156.out 1).trans rfl
         have hcz29_2 : wc.cell? ⟨gb156, 2, none⟩ = some (.string a0_2) := (blk_cell BK156.out 2).trans rfl
         have hfz29_0 := blk_frozen BK156.out 0
         have hfz29_1 := blk_frozen BK156.out 1
         have hfz29_2 := blk_frozen BK156.out 2
         go_wp2
         go_ret
         exact ⟨by first | rfl | (simp [errW_none, errW_some] <;> rfl) | (simp [*, errW_none, errW_some] <;> rfl), by repeat (first | (with_reducible first | exact HB.out | apply below_alloc | apply pw_below_drewN | apply below_drew1 | refine below_set ?_ GE156.out) | exact HB.out)⟩
    ·rw [if_neg c14] at H
     have c14b0 : (a0_2.toList == ([] : List UInt8)) = false := beq_eq_false_iff_ne.mpr c14
     have c14b1 : (a0_2.toList != ([] : List UInt8)) = true := bne_iff_ne.mpr c14
     obtain rfl := Option.some.inj H
     have hcz30_0 : wc.cell? ⟨gb156, 0, none⟩ = some (.int .i64 a0_0) := (blk_cell BK156.out 0).trans rfl
     have hcz30_1 : wc.cell? ⟨gb156, 1, none⟩ = some (.int .i64 a0_1) := (blk_cell BK156.out 1).trans rfl
     have hcz30_2 : wc.cell? ⟨gb156, 2, none⟩ = some (.string a0_2) := (blk_cell BK156.out 2).trans rfl
     have hfz30_0 := blk_frozen BK156.out 0
     have hfz30_1 := blk_frozen BK156.out 1
     have hfz30_2 := blk_frozen BK156.out 2
     go_wp2
     go_ret
     exact ⟨by first | rfl | (simp [errW_none, errW_some] <;> rfl) | (simp [*, errW_none, errW_some] <;> rfl), by repeat (first | (with_reducible first | exact HB.out | apply below_alloc | apply pw_below_drewN | apply below_drew1 | refine below_set ?_ GE156.out) | exact HB.out)⟩
end Go.Proofs.Ytcklkngljapecaa.X
end
