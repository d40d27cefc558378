/- Written by a program of this session (wip/xprint.py) with the kit's printer: Go functions as Lean functions, and that the code comes to their answers. -/
import Derived.Test.YtpibhiacmceekaaX0
import Derived.Test.YtpibhiacmceekaaHx
namespace Go.Proofs.Ytpibhiacmceekaa.X
open Go.RowKit Go.Proofs.YtpibhiacmceekaaW.PrintWords Go.Proofs.YtpibhiacmceekaaW.PrintLast Go.Proofs.YtpibhiacmceekaaW.PrintMore
attribute [local go_sem] max2_int min2_int max_two min_two max_three min_three max_four min_four   -- for this text's walks alone
set_option linter.unusedVariables false
set_option linter.unusedSimpArgs false

/-! ### levels_Count: function 15 (by hand): a closure that counts is called in a loop -/
def cntL (a : Int) : List Int → Int → Int
  | [], n => n
  | x :: l, n => cntL a l (if x = a then wrap64 (n + 1) else n)
def levels_Count.f (l0 : List Int) (a1 : Int) : Option Int := some (cntL a1 l0 0)
theorem cnt_drop {l : List Int} {i : Nat} (h : i < l.length) : l.drop i = l.getD i 0 :: l.drop (i + 1) := by
  rw [List.drop_eq_getElem_cons h, List.getD_eq_getElem?_getD, List.getElem?_eq_getElem h]; rfl
set_option maxHeartbeats 400000 in
theorem cnt_add (w : World) (g0 g1 : Nat) (x a n : Int) (ha : w.cell? ⟨g0, 0, none⟩ = some (.int .i64 a)) (hn : w.cell? ⟨g1, 0, none⟩ = some (.int .i64 n)) (hf : w.frozen? ⟨g1, 0, none⟩ = false) :
    Calls Try.prog 35 #[.int .i64 x, .pointer (some ⟨g0, 0, none⟩), .pointer (some ⟨g1, 0, none⟩)] w fun e w' => (∃ v, e = .returned v) ∧ (x = a → w' = w.setCell ⟨g1, 0, none⟩ (.int .i64 (wrap64 (n + 1)))) ∧ (¬ x = a → w' = w) := by
  by_cases c : x = a
  · have cb : (x == a) = true := beq_iff_eq.2 c
    have c := Aside0.mk c
    go_enter Try.func35, Try.ntmps35
    go_wp2
    go_end0
    exact ⟨⟨_, rfl⟩, fun _ => rfl, fun h => absurd c.out h⟩
  · have cb : (x == a) = false := beq_eq_false_iff_ne.2 c
    have c := Aside0.mk c
    go_enter Try.func35, Try.ntmps35
    go_wp2
    go_end0
    exact ⟨⟨_, rfl⟩, fun h => absurd h c.out, fun _ => rfl⟩
set_option maxHeartbeats 1000000 in
theorem levels_Count.calls (A0 : Option Addr) (c0 : Nat) (l0 : List Int) (a1 : Int) (r : Int) (w : World) (hr0 : Kd.C (Kd.int .i64) w A0 l0.length l0) (hc0 : l0.length ≤ c0) (h : levels_Count.f l0 a1 = some r) :
    Calls Try.prog 15 #[.slice A0 l0.length c0, .int .i64 a1] w fun e w' => e = .returned (.int .i64 r) ∧ Below w.heap.size w w' := by
  have H := Aside0.mk (Option.some.inj h)
  clear h
  have hl : l0.length ≤ 9223372036854775807 := hr0.2.1
  have HR := Aside0.mk hr0
  clear hr0
  go_enter Try.func15, Try.ntmps15
  go_wp2
  go_loopw [12] (fun v12 w' => ∃ (j : Nat) (n : Int), v12 = .int .i64 j ∧ j ≤ l0.length ∧ Aside0 (cntL a1 (l0.drop j) n = r) ∧
    Aside0 (w'.heap[w.heap.size]? = some (.cells #[.int .i64 a1] 3 (0, 0))) ∧ Aside0 (w'.heap[w.heap.size + 1]? = some (.cells #[.int .i64 n] 3 (0, 0))) ∧ Aside0 (Below w.heap.size w w')) (fun v12 w' => l0.length - (intOf v12).toNat)
  case atStart => exact ⟨0, 0, rfl, Nat.zero_le _, by simpa using H, ⟨blk_alloc (blk_new _ _) _⟩, ⟨by have := blk_new (w.alloc (Obj.cells #[Value.int IntKind.i64 a1] 3)) (Obj.cells #[Value.int IntKind.i64 0] 3); rwa [World.size_alloc] at this⟩, ⟨below_alloc (below_alloc (Below.refl _ _) _) _⟩⟩
  case round =>
    clear H
    obtain ⟨j, n, rfl, hj, HA, HG0, HG1, HB⟩ := hrel
    by_cases hlt : j < l0.length
    · have hA := HA.out
      rw [cnt_drop hlt, cntL] at hA
      obtain ⟨ad, rfl, hcell⟩ := c_at (Kd.C_below HR.out HB.out) (j : Int) (by omega) (by omega)
      have e : rd l0 (j : Int) = l0.getD j 0 := rfl
      rw [e, show ((j : Int)).toNat = j from rfl] at hcell
      obtain ⟨x, hx⟩ : ∃ x, x = l0.getD j 0 := ⟨_, rfl⟩
      rw [← hx] at hcell hA
      clear e hx HA
      have HN := cnt_add wr w.heap.size (w.heap.size + 1) x a1 n (blk_cell HG0.out 0) (blk_cell HG1.out 0) (blk_frozen HG1.out 0)
      go_wp2_with fail
      refine HN.mono ?_
      clear HN
      rintro e W1 ⟨⟨v', rfl⟩, hy, hn⟩
      by_cases c : x = a1
      · rw [if_pos c] at hA
        have hy := hy c
        have HG0' := Aside0.mk (show W1.heap[w.heap.size]? = some (.cells #[.int .i64 a1] 3 (0, 0)) by rw [hy]; exact blk_far HG0.out (by simp) _)
        have HG1' := Aside0.mk (show W1.heap[w.heap.size + 1]? = some (.cells #[.int .i64 (wrap64 (n + 1))] 3 (0, 0)) by rw [hy]; exact blk_set HG1.out 0 _)
        have HB' := Aside0.mk (show Below w.heap.size w W1 by rw [hy]; exact HB.out.setCell (p := ⟨w.heap.size + 1, 0, none⟩) (by simp) _)
        have HA' := Aside0.mk hA
        clear hy hn hA HG0 HG1 HB c
        go_wp2
        go_roundw
        case rel => exact ⟨j + 1, wrap64 (n + 1), by go_num, by omega, HA', HG0', HG1', HB'⟩
        case measure => simp [intOf]; omega
      · rw [if_neg c] at hA
        obtain rfl := hn c
        have HA' := Aside0.mk hA
        clear hy hn hA c
        go_wp2
        go_roundw
        case rel => exact ⟨j + 1, n, by go_num, by omega, HA', HG0, HG1, HB⟩
        case measure => simp [intOf]; omega
    · have hA := HA.out
      rw [List.drop_eq_nil_of_le (by omega), cntL] at hA
      subst hA
      have hc1 : wr.cell? ⟨w.heap.size + 1, 0, none⟩ = some (.int .i64 n) := blk_cell HG1.out 0
      go_wp2
      go_ret
      exact ⟨rfl, HB.out⟩

end Go.Proofs.Ytpibhiacmceekaa.X
