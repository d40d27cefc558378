/- levels.widths: the widths of levels, as a table. -/
import Derived.Test.YtpibhiacmceekaaX5
import Derived.Test.YtpibhiacmceekaaL1
import Derived.Laws.Rows
import Derived.Laws.CopyOwn
namespace Go.Proofs.Ytpibhiacmceekaa.X
open Go.RowKit Go.Proofs.YtpibhiacmceekaaW.PrintWords Go.Proofs.YtpibhiacmceekaaW.PrintLast Go.Proofs.YtpibhiacmceekaaW.PrintMore
set_option linter.unusedVariables false
set_option linter.unusedSimpArgs false

/-- The table, filled up to j. -/
def wrow (V : Nat → Int) (j : Nat) : Array Value := ((List.range 256).map fun i => Value.int .i64 (if i < j then V i else 0)).toArray
theorem wrow_size (V : Nat → Int) (j : Nat) : (wrow V j).size = 256 := by simp [wrow]
theorem wrow_get (V : Nat → Int) (j i : Nat) (h : i < 256) : (wrow V j)[i]? = some (.int .i64 (if i < j then V i else 0)) := by simp [wrow, h]
theorem wrow_one (V : Nat → Int) (j : Nat) : (wrow V j).all (·.oneCell') = true := by
  unfold wrow
  rw [List.all_toArray, List.all_eq_true]
  intro x hx
  obtain ⟨i, _, rfl⟩ := List.mem_map.1 hx
  rfl
theorem wrow_set (V : Nat → Int) (j : Nat) (h : j < 256) : (wrow V j).setIfInBounds j (.int .i64 (V j)) = wrow V (j + 1) := by
  apply Array.ext (by simp [wrow])
  intro i h1 h2
  have hi : i < 256 := by simpa [wrow] using h2
  rw [Array.getElem_setIfInBounds (by rw [wrow_size]; exact hi)]
  simp only [wrow, List.getElem_toArray, List.getElem_map, List.getElem_range]
  by_cases c : j = i
  · subst c; rw [if_pos rfl, if_pos (by omega)]
  · rw [if_neg c]
    by_cases d : i < j
    · rw [if_pos d, if_pos (by omega)]
    · rw [if_neg d, if_neg (by omega)]
set_option maxHeartbeats 1000000 in
set_option maxRecDepth 100000 in
theorem lv_widths (k : Nat) (V : Nat → Int) (hV : ∀ i : Nat, i < 256 → bits_Width.f k (i : Int) = some (V i)) (w : World) :
    Calls Try.prog 47 #[] w fun e w' => e = .returned (.agg (wrow V 256)) ∧ Below w.heap.size w w' := by
  have HV := Aside0.mk hV
  clear hV
  go_enter Try.func47, Try.ntmps47
  go_wp2
  have hz : Try.zeroCells70 = wrow V 0 := by kernel_rfl
  go_loopw [3] (fun v3 w' => ∃ j : Nat, v3 = .int .i64 j ∧ j ≤ 256 ∧ Aside0 (w'.heap[w.heap.size]? = some (.cells (wrow V 0) 70 (0, 0))) ∧ Aside0 (w'.heap[w.heap.size + 1]? = some (.cells (wrow V j) 70 (0, 0))) ∧ Aside0 (Below w.heap.size w w')) (fun v3 w' => 256 - (intOf v3).toNat)
  case atStart => exact ⟨0, rfl, by omega, ⟨by rw [hz]; exact blk_alloc (blk_new _ _) _⟩, ⟨by rw [hz]; have := blk_new (w.alloc (.cells (wrow V 0) 70)) (.cells (wrow V 0) 70); rwa [World.size_alloc] at this⟩, ⟨below_alloc (below_alloc (Below.refl _ _) _) _⟩⟩
  case round =>
    clear hz
    obtain ⟨j, rfl, hj, HG0, HG1, HB⟩ := hrel
    by_cases hlt : j < 256
    · have HW := Aside0.mk (fun W => bits_Width.calls k (j : Int) (V j) W (HV.out j hlt))
      have hjb := decide_eq_true (show (j : Int) < 256 by omega)
      go_wp2_with fail
      refine (HW.out _).mono ?_
      rintro e W1 ⟨rfl, ⟨nd, rfl⟩⟩
      have hc : (wr.drewN nd).cell? ⟨w.heap.size + 1, j, none⟩ = some (.int .i64 0) := by
        have := blk_cell (blk_drewN HG1.out nd) j
        rw [this, wrow_get V j j hlt, if_neg (by omega)]
      have hf : (wr.drewN nd).frozen? ⟨w.heap.size + 1, j, none⟩ = false := blk_frozen (blk_drewN HG1.out nd) j
      clear HW
      go_wp2
      go_roundw
      case rel => exact ⟨j + 1, by go_num, by omega, ⟨blk_far (blk_drewN HG0.out nd) (by simp) _⟩, ⟨by have := blk_set (blk_drewN HG1.out nd) j (.int .i64 (V j)); rwa [wrow_set V j hlt] at this⟩, ⟨(pw_below_drewN HB.out nd).setCell (p := ⟨w.heap.size + 1, j, none⟩) (by simp) _⟩⟩
      case measure => simp [intOf]; omega
    · have hjb := decide_eq_false (show ¬ (j : Int) < 256 by omega)
      have HG1' := Aside0.mk (show wr.heap[w.heap.size + 1]? = some (.cells (wrow V 256) 70 (0, 0)) by have := HG1.out; rwa [show j = 256 by omega] at this)
      clear HG1 hlt
      go_wp2_with (first | (refine wpList_load_row rfl _ _ rfl (w.heap.size + 1) rfl 70 (wrow V 256) (0, 0) _ HG1'.out Try.underlying70 rfl ?hi ?_; case hi => rw [wrow_size]; kernel_rfl) | (refine wpList_store_row rfl 70 (.tmp 0) (.tmp 12) rfl w.heap.size (wrow V 256) rfl rfl 70 (wrow V 0) HG0.out ?hj ?hk (wrow_one V 256) ?_; (case hj => rw [wrow_size]; kernel_rfl); (case hk => rw [wrow_size, wrow_size])))
      refine bodyPost_ret (v := .agg (wrow V 256)) ?hr rfl ⟨rfl, ?hb⟩
      case hr => exact results_cell_row rfl _ _ w.heap.size 70 (wrow V 256) (0, 0) _ rfl (setRow_heap _ _ _ _ _ _ HG0.out) Try.underlying70 rfl (by rw [wrow_size]; kernel_rfl)
      case hb => exact below_setRow HB.out (Nat.le_refl _) _
/-- The whole table. -/
def lvTab : Array Value := wrow (fun i => ((Nx.wd i : Nat) : Int)) 256
theorem lvTab_get (i : Nat) (h : i < 256) : lvTab[i]? = some (.int .i64 ((Nx.wd i : Nat) : Int)) := by
  have := wrow_get (fun i => ((Nx.wd i : Nat) : Int)) 256 i h
  rwa [if_pos h] at this
theorem lvTab_size : lvTab.size = 256 := wrow_size _ _
theorem lv_table (w : World) : Calls Try.prog 47 #[] w fun e w' => e = .returned (.agg lvTab) ∧ Below w.heap.size w w' :=
  lv_widths 65 (fun i => ((Nx.wd i : Nat) : Int)) (fun i hi => by
    have := L1.width (k := 65) (x := (i : Int)) (Nat.le_refl _) (by omega) (by omega)
    simpa using this) w
theorem lv_index (m : Nat) (h : m < 256) (w : World) : (Instr.index 70 (.agg lvTab) (.int .i64 (m : Int))).run Try.prog w = .ok (.int .i64 ((Nx.wd m : Nat) : Int)) w := by
  have hg := lvTab_get m h
  have hs : (Try.prog.info? 3).map (·.size) = some 1 := by kernel_rfl
  cases hq : Try.prog.info? 3 with
  | none => simp [hq] at hs
  | some i =>
    have hs1 : i.size = 1 := by simpa [hq] using hs
    unfold Instr.index
    simp [Sem.run_bind, asIntOf, run_underlying Try.underlying70, sizeOf, typeInfo, hq, hs1]
    rw [if_pos h]
    simp [part, isAgg, Sem.run_bind, run_underlying Try.underlying3, hg]
end Go.Proofs.Ytpibhiacmceekaa.X
