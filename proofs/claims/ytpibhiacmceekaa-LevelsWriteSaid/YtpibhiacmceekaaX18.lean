/- Written by a program of this session (wip/xprint.py) with the kit's printer: Go functions as Lean functions, and that the code comes to their answers. -/
import Derived.Test.YtpibhiacmceekaaX0
import Derived.Test.YtpibhiacmceekaaX10
import Derived.Test.YtpibhiacmceekaaLw
namespace Go.Proofs.Ytpibhiacmceekaa.X
open Go.RowKit Go.Proofs.YtpibhiacmceekaaW.PrintWords Go.Proofs.YtpibhiacmceekaaW.PrintLast Go.Proofs.YtpibhiacmceekaaW.PrintMore
attribute [local go_sem] max2_int min2_int max_two min_two max_three min_three max_four min_four   -- for this text's walks alone
set_option linter.unusedVariables false
set_option linter.unusedSimpArgs false

/-! ### levels_Write: function 23 (by hand): a goto, a table -/
def lwBad (m x : Int) : Bool := decide (x < 0) || decide (m < x)
def levels_Write.f (k : Nat) (a0 : Int) (l1 : List Int) : Option (List Int × Int) :=
  if a0 < 0 then some ([], 2) else if 255 < a0 then some ([], 2) else if l1.any (lwBad a0) = true then some ([], 2) else if 65536 < (l1.length : Int) then some ([], 3) else if a0 = 0 then some ([], 0) else
    hybrid_Write.f k ((Nx.wd a0.toNat : Nat) : Int) l1
theorem levels_Write.mono : ∀ a0 l1 k, LeO (levels_Write.f k a0 l1) (levels_Write.f (k + 1) a0 l1) := by
  intro a0 l1 k
  unfold levels_Write.f
  exact LeO.ite (LeO.refl _) (LeO.ite (LeO.refl _) (LeO.ite (LeO.refl _) (LeO.ite (LeO.refl _) (LeO.ite (LeO.refl _) (hybrid_Write.mono _ _ _)))))
def lwOk (m : Int) : Bool := decide (0 ≤ m) && decide (m ≤ 255)
set_option maxHeartbeats 400000 in
theorem lw_right (m : Int) (w : World) : Calls Try.prog 46 #[.int .i64 m] w fun e w' => e = .returned (.bool (lwOk m)) ∧ w' = w := by
  by_cases c : 0 ≤ m
  · have cb : decide (0 ≤ m) = true := decide_eq_true c
    have hr := Aside0.mk (show lwOk m = decide (m ≤ 255) by unfold lwOk; rw [cb]; rfl)
    clear c
    go_enter Try.func46, Try.ntmps46
    go_wp2
    go_ret
    exact ⟨by rw [hr.out]; rfl, rfl⟩
  · have cb : decide (0 ≤ m) = false := decide_eq_false c
    have hr := Aside0.mk (show lwOk m = false by unfold lwOk; rw [cb]; rfl)
    clear c
    go_enter Try.func46, Try.ntmps46
    go_wp2
    go_ret
    exact ⟨by rw [hr.out]; rfl, rfl⟩
def LwEnd (w : World) (r1 : List Int) (r2 : Int) (e : Ending) (w' : World) : Prop := ∃ v0_ : Value, e = .returned (.tuple #[v0_, .int .i64 r2]) ∧ Kd.R (Kd.int .u8) 5 w' w.heap.size (fun _ => True) v0_ r1 ∧ Below w.heap.size w w'
theorem lw_end_nil {w w' : World} {r2 : Int} (h : Below w.heap.size w w') : LwEnd w [] r2 (.returned (.tuple #[.slice none 0 0, .int .i64 r2])) w' := ⟨_, rfl, Kd.R_nil _ _ _ _ _, h⟩
/-- At the jump: the refusal stands in its place. -/
def LwJ (w : World) (r2 : Int) (a' : Act) (w' : World) : Prop := (∃ u0 u1 u2 u3 u4 u6 u7 u8 u9 u10 u11 u12 u13 u14 u15 u16 u17 u18 u19 u20 u21 u22 u23 u24 u25 u26 u27 u28 u29 u30 u31 u32 u33 u34 u35 u36 u37 : Value, a' = { tmps := #[u0, u1, u2, u3, u4, .int .i64 r2, u6, u7, u8, u9, u10, u11, u12, u13, u14, u15, u16, u17, u18, u19, u20, u21, u22, u23, u24, u25, u26, u27, u28, u29, u30, u31, u32, u33, u34, u35, u36, u37], defers := [] }) ∧ Below w.heap.size w w'
theorem lw_drop {l : List Int} {i : Nat} (h : i < l.length) : l.drop i = l.getD i 0 :: l.drop (i + 1) := by
  rw [List.drop_eq_getElem_cons h, List.getD_eq_getElem?_getD, List.getElem?_eq_getElem h]; rfl
set_option maxHeartbeats 4000000 in
set_option maxRecDepth 100000 in
theorem lw_walk (k : Nat) (A1 : Option Addr) (c1 : Nat) (l1 : List Int) (a0 : Int) (r1 : List Int) (r2 : Int) (w : World) (hr1 : Kd.C (Kd.int .i64) w A1 l1.length l1) (hc1 : l1.length ≤ c1) (h : levels_Write.f k a0 l1 = some (r1, r2)) :
    Calls Try.prog 23 #[.int .i64 a0, .slice A1 l1.length c1] w (LwEnd w r1 r2) := by
  have HR := Aside0.mk hr1
  have hl : l1.length ≤ 9223372036854775807 := hr1.2.1
  have HC := Aside0.mk (fun W => lw_right a0 W)
  have hh := Aside0.mk h
  clear h hr1
  go_enter Try.func23, Try.ntmps23
  go_wp2
  refine wp_scope_jumps 0 (fun a' w' => r1 = [] ∧ LwJ w r2 a' w') (fun _ _ => 0) rfl ?_ ?_
  rotate_left 1
  · rintro a' w' ⟨rfl, ⟨u0, u1, u2, u3, u4, u6, u7, u8, u9, u10, u11, u12, u13, u14, u15, u16, u17, u18, u19, u20, u21, u22, u23, u24, u25, u26, u27, u28, u29, u30, u31, u32, u33, u34, u35, u36, u37, rfl⟩, hB⟩
    have HB := Aside0.mk hB
    clear hB hh
    go_wp2
    simp only [Exit.jump]
    go_ret2
    exact lw_end_nil HB.out
  · by_cases c : a0 < 0
    · have hok : lwOk a0 = false := by unfold lwOk; rw [decide_eq_false (show ¬ 0 ≤ a0 by omega)]; rfl
      have hk := Aside0.mk hok
      have h := hh.out
      unfold levels_Write.f at h
      rw [if_pos c] at h
      have hr := Aside0.mk (show [] = r1 ∧ 2 = r2 by simpa using h)
      clear h hh hok c
      go_wp2_with fail
      refine (HC.out _).mono ?_
      rw [hk.out]
      rintro e W1 ⟨rfl, rfl⟩
      go_wp2
      go_step3
      obtain ⟨rfl, rfl⟩ := hr.out
      exact ⟨rfl, rfl, ⟨_, _, _, _, _, _, _, _, _, _, _, _, _, _, _, _, _, _, _, _, _, _, _, _, _, _, _, _, _, _, _, _, _, _, _, _, _, rfl⟩, Below.refl _ _⟩
    by_cases c2 : 255 < a0
    · have hok : lwOk a0 = false := by unfold lwOk; rw [decide_eq_false (show ¬ a0 ≤ 255 by omega), Bool.and_false]
      have hk := Aside0.mk hok
      have h := hh.out
      unfold levels_Write.f at h
      rw [if_neg c, if_pos c2] at h
      have hr := Aside0.mk (show [] = r1 ∧ 2 = r2 by simpa using h)
      clear h hh hok c c2
      go_wp2_with fail
      refine (HC.out _).mono ?_
      rw [hk.out]
      rintro e W1 ⟨rfl, rfl⟩
      go_wp2
      go_step3
      obtain ⟨rfl, rfl⟩ := hr.out
      exact ⟨rfl, rfl, ⟨_, _, _, _, _, _, _, _, _, _, _, _, _, _, _, _, _, _, _, _, _, _, _, _, _, _, _, _, _, _, _, _, _, _, _, _, _, rfl⟩, Below.refl _ _⟩
    have hok : lwOk a0 = true := by unfold lwOk; rw [decide_eq_true (show 0 ≤ a0 by omega), decide_eq_true (show a0 ≤ 255 by omega)]; rfl
    have hk := Aside0.mk hok
    have h := hh.out
    unfold levels_Write.f at h
    rw [if_neg c, if_neg c2] at h
    have hm0 : 0 ≤ a0 := by omega
    have hm1 : a0 ≤ 255 := by omega
    have HH := Aside0.mk h
    clear h hh hok c c2
    go_wp2_with fail
    refine (HC.out _).mono ?_
    rw [hk.out]
    rintro e W1 ⟨rfl, rfl⟩
    clear HC hk
    go_wp2
    go_loopw [13] (fun v13 w' => ∃ (j : Nat), v13 = .int .i64 j ∧ j ≤ l1.length ∧ Aside0 (l1.any (lwBad a0) = (l1.drop j).any (lwBad a0)) ∧ w' = W1) (fun v13 w' => l1.length - (intOf v13).toNat)
    case atStart => exact ⟨0, rfl, Nat.zero_le _, ⟨rfl⟩, rfl⟩
    case round =>
      obtain ⟨j, rfl, hj, HA, rfl⟩ := hrel
      by_cases hlt : j < l1.length
      · have hA := HA.out
        rw [lw_drop hlt, List.any_cons] at hA
        obtain ⟨ad, rfl, hcell⟩ := c_at HR.out (j : Int) (by omega) (by omega)
        have e : rd l1 (j : Int) = l1.getD j 0 := rfl
        rw [e, show ((j : Int)).toNat = j from rfl] at hcell
        obtain ⟨x, hx⟩ : ∃ x, x = l1.getD j 0 := ⟨_, rfl⟩
        rw [← hx] at hcell hA
        clear e hx HA
        by_cases b1 : x < 0
        · have hb1 := decide_eq_true b1
          have h := HH.out
          rw [if_pos (by rw [hA]; unfold lwBad; rw [hb1]; rfl)] at h
          have hr := Aside0.mk (show [] = r1 ∧ 2 = r2 by simpa using h)
          clear h hA b1
          go_wp2
          go_step3
          obtain ⟨rfl, rfl⟩ := hr.out
          exact ⟨rfl, rfl, ⟨_, _, _, _, _, _, _, _, _, _, _, _, _, _, _, _, _, _, _, _, _, _, _, _, _, _, _, _, _, _, _, _, _, _, _, _, _, rfl⟩, Below.refl _ _⟩
        · have hb1 := decide_eq_false b1
          by_cases b2 : a0 < x
          · have hb2 := decide_eq_true b2
            have h := HH.out
            rw [if_pos (by rw [hA]; unfold lwBad; rw [hb1, hb2]; rfl)] at h
            have hr := Aside0.mk (show [] = r1 ∧ 2 = r2 by simpa using h)
            clear h hA b1 b2
            go_wp2
            go_step3
            obtain ⟨rfl, rfl⟩ := hr.out
            exact ⟨rfl, rfl, ⟨_, _, _, _, _, _, _, _, _, _, _, _, _, _, _, _, _, _, _, _, _, _, _, _, _, _, _, _, _, _, _, _, _, _, _, _, _, rfl⟩, Below.refl _ _⟩
          · have hb2 := decide_eq_false b2
            have HA' := Aside0.mk (show l1.any (lwBad a0) = (l1.drop (j + 1)).any (lwBad a0) by rw [hA]; unfold lwBad; rw [hb1, hb2]; rfl)
            clear hA b1 b2
            go_wp2
            go_roundw
            case rel => exact ⟨j + 1, by go_num, by omega, HA', trivial⟩
            case measure => simp [intOf]; omega
      · have hA := HA.out
        rw [List.drop_eq_nil_of_le (by omega)] at hA
        have h := HH.out
        rw [if_neg (by rw [hA]; simp)] at h
        clear hA HA HH
        by_cases c3 : 65536 < (l1.length : Int)
        · have hc3 := decide_eq_true c3
          rw [if_pos c3] at h
          have hr := Aside0.mk (show [] = r1 ∧ 3 = r2 by simpa using h)
          clear h c3
          go_wp2
          go_step3
          obtain ⟨rfl, rfl⟩ := hr.out
          exact ⟨rfl, rfl, ⟨_, _, _, _, _, _, _, _, _, _, _, _, _, _, _, _, _, _, _, _, _, _, _, _, _, _, _, _, _, _, _, _, _, _, _, _, _, rfl⟩, Below.refl _ _⟩
        have hc3 := decide_eq_false c3
        rw [if_neg c3] at h
        by_cases c4 : a0 = 0
        · have hc4 : (a0 == 0) = true := by simp [c4]
          rw [if_pos c4] at h
          have hr := Aside0.mk (show [] = r1 ∧ 0 = r2 by simpa using h)
          clear h c3 c4
          go_wp2
          simp only [Exit.jump]
          go_ret2
          obtain ⟨rfl, rfl⟩ := hr.out
          exact lw_end_nil (Below.refl _ _)
        have hc4 : (a0 == 0) = false := by simp [c4]
        rw [if_neg c4] at h
        have HH := Aside0.mk h
        have HT := Aside0.mk (fun W => lv_table W)
        obtain ⟨m, rfl⟩ := Int.eq_ofNat_of_zero_le hm0
        have ht := fun W => lv_index m (by omega) W
        have HH' := Aside0.mk (fun W hv => hybrid_Write.calls k ((Nx.wd m : Nat) : Int) (fun _ => True) A1 c1 l1 r1 r2 W hv HH.out)
        clear h c3 c4 HH
        obtain ⟨wm, hwm⟩ : ∃ x : Int, x = ((Nx.wd m : Nat) : Int) := ⟨_, rfl⟩
        rw [← hwm] at ht HH'
        clear hwm
        go_wp2_with fail
        refine (HT.out _).mono ?_
        rintro e W2 ⟨rfl, hB⟩
        have HB := Aside0.mk hB
        clear hB HT
        go_wp2_with fail
        refine (HH'.out W2 (v_of_c (Kd.C_below HR.out HB.out) hc1)).mono ?_
        rintro e W3 ⟨v0, rfl, hR, hB⟩
        have HB3 := Aside0.mk (HB.out.trans (hB.mono HB.out.size))
        have HR3 := Aside0.mk (Kd.R_lower (Kd.R_mono hR (fun _ _ => trivial)) HB.out.size : Kd.R (Kd.int .u8) 5 W3 _ (fun _ => True) v0 r1)
        clear hR hB HB HH' ht
        go_wp2
        simp only [Exit.jump]
        go_ret2
        exact ⟨_, rfl, HR3.out, HB3.out⟩
theorem levels_Write.calls (k : Nat) (a0 : Int) (A1 : Option Addr) (c1 : Nat) (l1 : List Int) (r1 : List Int) (r2 : Int) (w : World) (hr1 : Kd.C (Kd.int .i64) w A1 l1.length l1) (hc1 : l1.length ≤ c1) (h : levels_Write.f k a0 l1 = some (r1, r2)) :
    Calls Try.prog 23 #[.int .i64 a0, .slice A1 l1.length c1] w fun e w' => ∃ v0_ : Value, e = .returned (.tuple #[v0_, .int .i64 r2]) ∧ Kd.R (Kd.int .u8) 5 w' w.heap.size (fun _ => True) v0_ r1 ∧ Below w.heap.size w w' :=
  lw_walk k A1 c1 l1 a0 r1 r2 w hr1 hc1 h

end Go.Proofs.Ytpibhiacmceekaa.X
