/- Written by a program of this session (wip/xprint.py) with the kit's printer: Go functions as Lean functions, and that the code comes to their answers. -/
import Derived.Test.YtpibhiacmceekaaX0
import Derived.Test.YtpibhiacmceekaaX5
import Derived.Test.YtpibhiacmceekaaX10
import Derived.Test.YtpibhiacmceekaaHx
namespace Go.Proofs.Ytpibhiacmceekaa.X
open Go.RowKit Go.Proofs.YtpibhiacmceekaaW.PrintWords Go.Proofs.YtpibhiacmceekaaW.PrintLast Go.Proofs.YtpibhiacmceekaaW.PrintMore
attribute [local go_sem] max2_int min2_int max_two min_two max_three min_three max_four min_four   -- for this text's walks alone
set_option linter.unusedVariables false
set_option linter.unusedSimpArgs false

/-! ### dict_Write: function 21 (by hand): slices.ContainsFunc with a closure -/
def dwBad (n x : Int) : Bool := decide (x < 0) || decide (n ≤ x)
set_option maxHeartbeats 400000 in
theorem dw_pred (w : World) (g0 : Nat) (n x : Int) (hn : w.cell? ⟨g0, 0, none⟩ = some (.int .i64 n)) :
    Calls Try.prog 45 #[.int .i64 x, .pointer (some ⟨g0, 0, none⟩)] w fun e w' => e = .returned (.bool (dwBad n x)) ∧ Drawn0 w w' := by
  by_cases c : x < 0
  · have cb : decide (x < 0) = true := decide_eq_true c
    have hr := Aside0.mk (show dwBad n x = true by unfold dwBad; rw [cb]; rfl)
    go_enter Try.func45, Try.ntmps45
    go_wp2
    go_ret
    exact ⟨by rw [hr.out]; rfl, Drawn0.refl _⟩
  · have cb : decide (x < 0) = false := decide_eq_false c
    have hr := Aside0.mk (show dwBad n x = decide (n ≤ x) by unfold dwBad; rw [cb]; rfl)
    go_enter Try.func45, Try.ntmps45
    go_wp2
    go_ret
    exact ⟨by rw [hr.out]; rfl, Drawn0.refl _⟩
theorem dw_drop {l : List Int} {i : Nat} (h : i < l.length) : l.drop i = l.getD i 0 :: l.drop (i + 1) := by
  rw [List.drop_eq_getElem_cons h, List.getD_eq_getElem?_getD, List.getElem?_eq_getElem h]; rfl
def SomeIdx (b : Bool) (e : Ending) : Prop := ∃ i : Int, e = .returned (.int .i64 i) ∧ decide (0 ≤ i) = b
set_option maxHeartbeats 1000000 in
theorem dw_index (A0 : Option Addr) (c0 : Nat) (l0 : List Int) (g0 : Nat) (n : Int) (w : World) (hr0 : Kd.C (Kd.int .i64) w A0 l0.length l0) (hn : w.cell? ⟨g0, 0, none⟩ = some (.int .i64 n)) :
    Calls Try.prog 61 #[.slice A0 l0.length c0, .func (.func 45) #[] #[.pointer (some ⟨g0, 0, none⟩)]] w fun e w' => SomeIdx (l0.any (dwBad n)) e ∧ Below w.heap.size w w' := by
  have hl : l0.length ≤ 9223372036854775807 := hr0.2.1
  have HR := Aside0.mk hr0
  have HN := Aside0.mk hn
  have hg : g0 < w.heap.size := World.block_lt_of_cell? w _ hn
  clear hr0 hn
  go_enter Try.func61, Try.ntmps61
  go_wp2
  go_loopw [8] (fun v8 w' => ∃ (j : Nat), v8 = .int .i64 j ∧ j ≤ l0.length ∧ Aside0 (l0.any (dwBad n) = (l0.drop j).any (dwBad n)) ∧ Aside0 (Below w.heap.size w w')) (fun v8 w' => l0.length - (intOf v8).toNat)
  case atStart => exact ⟨0, rfl, Nat.zero_le _, ⟨rfl⟩, ⟨Below.refl _ _⟩⟩
  case round =>
    obtain ⟨j, rfl, hj, HA, HB⟩ := hrel
    by_cases hlt : j < l0.length
    · have hA := HA.out
      rw [dw_drop hlt, List.any_cons] at hA
      obtain ⟨ad, rfl, hcell⟩ := c_at (Kd.C_below HR.out HB.out) (j : Int) (by omega) (by omega)
      have e : rd l0 (j : Int) = l0.getD j 0 := rfl
      rw [e, show ((j : Int)).toNat = j from rfl] at hcell
      obtain ⟨x, hx⟩ : ∃ x, x = l0.getD j 0 := ⟨_, rfl⟩
      rw [← hx] at hcell hA
      clear e hx HA
      have HP := dw_pred wr g0 n x ((HB.out.cell (p := ⟨g0, 0, none⟩) hg).trans HN.out)
      obtain ⟨b, hb⟩ : ∃ b, b = dwBad n x := ⟨_, rfl⟩
      rw [← hb] at HP hA
      clear hb
      cases b with
      | true =>
        have HA' := Aside0.mk (show l0.any (dwBad n) = true by rw [hA]; rfl)
        clear hA
        go_wp2_with fail
        refine HP.mono ?_
        clear HP
        rintro e W1 ⟨rfl, ⟨nd, rfl⟩⟩
        go_wp2
        go_ret
        exact ⟨⟨_, rfl, by rw [HA'.out]; simp⟩, pw_below_drewN HB.out nd⟩
      | false =>
        have HA' := Aside0.mk (show l0.any (dwBad n) = (l0.drop (j + 1)).any (dwBad n) by rw [hA]; rfl)
        clear hA
        go_wp2_with fail
        refine HP.mono ?_
        clear HP
        rintro e W1 ⟨rfl, ⟨nd, rfl⟩⟩
        go_wp2
        go_roundw
        case rel => exact ⟨j + 1, by go_num, by omega, HA', ⟨pw_below_drewN HB.out nd⟩⟩
        case measure => simp [intOf]; omega
    · have hA := HA.out
      rw [List.drop_eq_nil_of_le (by omega)] at hA
      clear HA
      have HA' := Aside0.mk hA
      clear hA
      go_wp2
      go_ret
      exact ⟨⟨_, rfl, by rw [HA'.out]; rfl⟩, HB.out⟩
set_option maxHeartbeats 400000 in
theorem dw_contains (A0 : Option Addr) (c0 : Nat) (l0 : List Int) (g0 : Nat) (n : Int) (w : World) (hr0 : Kd.C (Kd.int .i64) w A0 l0.length l0) (hn : w.cell? ⟨g0, 0, none⟩ = some (.int .i64 n)) :
    Calls Try.prog 44 #[.slice A0 l0.length c0, .func (.func 45) #[] #[.pointer (some ⟨g0, 0, none⟩)]] w fun e w' => e = .returned (.bool (l0.any (dwBad n))) ∧ Below w.heap.size w w' := by
  have HX := dw_index A0 c0 l0 g0 n w hr0 hn
  clear hr0 hn
  go_enter Try.func44, Try.ntmps44
  go_wp2_with fail
  refine HX.mono ?_
  clear HX
  rintro e W1 ⟨⟨i, rfl, hi⟩, hb⟩
  have HI := Aside0.mk hi
  have HB := Aside0.mk hb
  clear hi hb
  go_wp2
  go_ret
  exact ⟨by rw [← HI.out]; rfl, HB.out⟩
def dict_Write.f (k : Nat) (a0 : Int) (l1 : List Int) : Option (List Int × Int) :=
  if a0 < 0 then some ([], 2) else if l1.any (dwBad a0) = true then some ([], 2) else if 65536 < a0 then some ([], 3) else if 65536 < (l1.length : Int) then some ([], 3) else
    (bits_Width.f k (max 0 (a0 - 1))).bind fun t => (hybrid_Write.f k t l1).bind fun b => if b.2 = 0 then (if 1048576 ≤ (b.1.length : Int) then some ([], 3) else some ([t % 256] ++ b.1, 0)) else some ([], 3)
theorem dict_Write.mono : ∀ a0 l1 k, LeO (dict_Write.f k a0 l1) (dict_Write.f (k + 1) a0 l1) := by
  intro a0 l1 k
  unfold dict_Write.f
  exact LeO.ite (LeO.refl _) (LeO.ite (LeO.refl _) (LeO.ite (LeO.refl _) (LeO.ite (LeO.refl _) (LeO.bind (bits_Width.mono _ _) (fun _ => LeO.bind (hybrid_Write.mono _ _ _) (fun _ => LeO.refl _))))))
def DwEnd (w : World) (r1 : List Int) (r2 : Int) (e : Ending) (w' : World) : Prop := ∃ v0_ : Value, e = .returned (.tuple #[v0_, .int .i64 r2]) ∧ Kd.R (Kd.int .u8) 5 w' w.heap.size (fun _ => True) v0_ r1 ∧ Below w.heap.size w w'
theorem dw_end_nil {w w' : World} {r2 : Int} (h : Below w.heap.size w w') : DwEnd w [] r2 (.returned (.tuple #[.slice none 0 0, .int .i64 r2])) w' := ⟨_, rfl, Kd.R_nil _ _ _ _ _, h⟩
set_option maxHeartbeats 1000000 in
theorem dw_neg (A1 : Option Addr) (c1 : Nat) (l1 : List Int) (a0 : Int) (w : World) (h : a0 < 0) :
    Calls Try.prog 21 #[.int .i64 a0, .slice A1 l1.length c1] w (DwEnd w [] 2) := by
  have hb := decide_eq_true h
  clear h
  go_enter Try.func21, Try.ntmps21
  go_wp2
  go_ret2
  exact dw_end_nil (below_alloc (Below.refl _ _) _)
set_option maxHeartbeats 2000000 in
theorem dw_err (A1 : Option Addr) (c1 : Nat) (l1 : List Int) (a0 : Int) (r2 : Int) (w : World) (hr1 : Kd.C (Kd.int .i64) w A1 l1.length l1) (hc1 : l1.length ≤ c1) (h0 : ¬ a0 < 0)
    (h : (l1.any (dwBad a0) = true ∧ r2 = 2) ∨ (l1.any (dwBad a0) = false ∧ (65536 < a0 ∨ 65536 < (l1.length : Int)) ∧ r2 = 3)) :
    Calls Try.prog 21 #[.int .i64 a0, .slice A1 l1.length c1] w (DwEnd w [] r2) := by
  have hb := decide_eq_false h0
  have HC := dw_contains A1 c1 l1 w.heap.size a0 (w.alloc (.cells #[.int .i64 a0] 3)) (Kd.C_alloc hr1 _) (by simp)
  have HB0 := Aside0.mk (below_alloc (Below.refl w.heap.size w) (.cells #[.int .i64 a0] 3))
  clear hr1
  obtain ⟨b, hbb⟩ : ∃ b, b = l1.any (dwBad a0) := ⟨_, rfl⟩
  rw [← hbb] at HC h
  clear hbb h0
  rcases h with ⟨rfl, rfl⟩ | ⟨rfl, h, rfl⟩
  · go_enter Try.func21, Try.ntmps21
    go_wp2_with fail
    refine HC.mono ?_
    clear HC
    rintro e W1 ⟨rfl, hB⟩
    have HB := Aside0.mk (HB0.out.trans (hB.mono (by simp)))
    clear hB HB0
    go_wp2
    go_ret2
    exact dw_end_nil HB.out
  · by_cases h1 : 65536 < a0
    · have h1b := decide_eq_true h1
      clear h1 h
      have hn := Aside0.mk (show (w.alloc (.cells #[.int .i64 a0] 3)).cell? ⟨w.heap.size, 0, none⟩ = some (.int .i64 a0) by simp)
      go_enter Try.func21, Try.ntmps21
      go_wp2_with fail
      refine HC.mono ?_
      clear HC
      rintro e W1 ⟨rfl, hB⟩
      have hcell : W1.cell? ⟨w.heap.size, 0, none⟩ = some (.int .i64 a0) := (hB.cell (p := ⟨w.heap.size, 0, none⟩) (by simp)).trans hn.out
      have HB := Aside0.mk (HB0.out.trans (hB.mono (by simp)))
      clear hB HB0 hn
      go_wp2
      go_ret2
      exact dw_end_nil HB.out
    · have h1b := decide_eq_false h1
      have h2b := decide_eq_true (show 65536 < (l1.length : Int) by omega)
      clear h1 h
      have hn := Aside0.mk (show (w.alloc (.cells #[.int .i64 a0] 3)).cell? ⟨w.heap.size, 0, none⟩ = some (.int .i64 a0) by simp)
      go_enter Try.func21, Try.ntmps21
      go_wp2_with fail
      refine HC.mono ?_
      clear HC
      rintro e W1 ⟨rfl, hB⟩
      have hcell : W1.cell? ⟨w.heap.size, 0, none⟩ = some (.int .i64 a0) := (hB.cell (p := ⟨w.heap.size, 0, none⟩) (by simp)).trans hn.out
      have HB := Aside0.mk (HB0.out.trans (hB.mono (by simp)))
      clear hB HB0 hn
      go_wp2
      go_ret2
      exact dw_end_nil HB.out
set_option maxHeartbeats 4000000 in
set_option maxRecDepth 100000 in
theorem dw_fine (k : Nat) (A1 : Option Addr) (c1 : Nat) (l1 : List Int) (a0 : Int) (t : Int) (b : List Int) (e2 : Int) (r1 : List Int) (r2 : Int) (w : World) (hr1 : Kd.C (Kd.int .i64) w A1 l1.length l1) (hc1 : l1.length ≤ c1) (h0 : 0 ≤ a0)
    (h : l1.any (dwBad a0) = false) (h1 : a0 ≤ 65536) (h2 : (l1.length : Int) ≤ 65536) (hW : bits_Width.f k (max 0 (a0 - 1)) = some t) (hH : hybrid_Write.f k t l1 = some (b, e2))
    (hr : (if e2 = 0 then (if 1048576 ≤ (b.length : Int) then some ([], 3) else some ([t % 256] ++ b, 0)) else some ([], 3)) = some (r1, r2)) :
    Calls Try.prog 21 #[.int .i64 a0, .slice A1 l1.length c1] w (DwEnd w r1 r2) := by
  have HC := dw_contains A1 c1 l1 w.heap.size a0 (w.alloc (.cells #[.int .i64 a0] 3)) (Kd.C_alloc hr1 _) (by simp)
  rw [h] at HC
  have HR := Aside0.mk hr1
  have HB0 := Aside0.mk (below_alloc (Below.refl w.heap.size w) (.cells #[.int .i64 a0] 3))
  have hn := Aside0.mk (show (w.alloc (.cells #[.int .i64 a0] 3)).cell? ⟨w.heap.size, 0, none⟩ = some (.int .i64 a0) by simp)
  have h1b := decide_eq_false (show ¬ 65536 < a0 by omega)
  have h2b := decide_eq_false (show ¬ 65536 < (l1.length : Int) by omega)
  obtain ⟨m, hm⟩ : ∃ m, m = max 0 (a0 - 1) := ⟨_, rfl⟩
  rw [← hm] at hW
  have HW : ∀ W, Calls Try.prog 36 #[.int .u64 m] W fun e w' => e = .returned (.int .i64 t) ∧ Drawn0 W w' := fun W => bits_Width.calls k m t W hW
  have HW := Aside0.mk HW
  have A2' := Aside0.mk hH
  have A3' := Aside0.mk hr
  have h01 : (a0 ≤ 1 ∧ m = 0) ∨ (1 < a0 ∧ m = a0 - 1) := by omega
  clear hr1 h hW hH hr hm
  rcases h01 with ⟨h01, rfl⟩ | ⟨h01, rfl⟩
  all_goals
    go_enter Try.func21, Try.ntmps21
    go_wp2_with fail
    refine HC.mono ?_
    clear HC
    rintro e W1 ⟨rfl, hB⟩
    have hcell : W1.cell? ⟨w.heap.size, 0, none⟩ = some (.int .i64 a0) := (hB.cell (p := ⟨w.heap.size, 0, none⟩) (by simp)).trans hn.out
    have HB := Aside0.mk (HB0.out.trans (hB.mono (by simp)))
    clear hB HB0 hn
    go_wp2_with fail
    refine (HW.out _).mono ?_
    rintro e W2 ⟨rfl, ⟨nd, rfl⟩⟩
    have HB2 := Aside0.mk (pw_below_drewN HB.out nd)
    clear HB HW
    obtain ⟨W3, hW3⟩ : ∃ W3, W3 = W1.drewN nd := ⟨_, rfl⟩
    rw [← hW3] at HB2 ⊢
    clear hW3
    go_wp2_with fail
    refine (hybrid_Write.calls k t (fun _ => True) A1 c1 l1 b e2 W3 (v_of_c (Kd.C_below HR.out HB2.out) hc1) A2'.out).mono ?_
    rintro e W4 ⟨v0, rfl, hR, hB4⟩
    have HB := Aside0.mk (HB2.out.trans (hB4.mono HB2.out.size))
    have HR4 := Aside0.mk (Kd.R_lower hR HB2.out.size)
    obtain ⟨Ao, co, rfl⟩ := Kd.R_slice hR
    clear HB2 hR hB4 A2' HR
    by_cases he : e2 = 0
    · have heb : (e2 != 0) = false := by simp [he]
      have A3 := A3'.out
      rw [if_pos he] at A3
      clear A3'
      by_cases hg : 1048576 ≤ (b.length : Int)
      · have hgb := decide_eq_true hg
        rw [if_pos hg] at A3
        obtain ⟨rfl, rfl⟩ : [] = r1 ∧ 3 = r2 := by simpa using A3
        clear A3 he hg
        go_wp2
        go_ret2
        exact dw_end_nil HB.out
      · have hgb := decide_eq_false hg
        rw [if_neg hg] at A3
        obtain ⟨hr1, rfl⟩ : [t % 256] ++ b = r1 ∧ 0 = r2 := by simpa using A3
        have HR1 := Aside0.mk hr1
        clear A3 he hr1
        go_wp2_with (first | ((with_reducible refine gate_dst (N := 45) rfl ?_); (try (refine gate_guard (by rfl) ?_; dsimp only)); refine Kd.R_lit (Kd.int .u8) _ 5 ?hg (N := 45) ?hd (xs := ([(t) % 256] : List Int)) (inner := [.int .u8 ((t) % 256)]) (ok := fun _ => True) (okp := fun _ => True) ?hr ?hp (fun _ hk => hk) trivial (Below.refl _ _) (Nat.le_refl _) (by simp) ?_; (case hd => rfl); (case hg => rfl); (case hr => first | (go_simp; done) | (go_simp; rfl)); (case hp => exact (Reps.one (show Kd.M (Kd.int .u8) _ _ _ ((t) % 256) [.int .u8 ((t) % 256)] from rfl) (Reps.none _ _))); intro v5 w5 ho5 hb5 hg5 hnew5; clear hg5 hnew5; have HO4 := Aside0.mk (Kd.R_elder' HR4.out (Kd.R_base ho5) hb5); have HO5 := Aside0.mk (Kd.R_lower (Kd.R_new' ho5 (Kd.R_lt HR4.out)) HB.out.size); have HB5 := Aside0.mk (below_step HB.out hb5); clear HB HR4 ho5 hb5) | ((with_reducible refine gate_builtin (b := .append) (xs := #[.tmp 45, .tmp 46]) rfl ?_); (try (refine gate_guard (by rfl) ?_; dsimp only)); at_builtin; refine Kd.R_append_rows (Kd.int .u8) (w0 := w) w.heap.size rfl (.tmp 45) (.tmp 46) 37 5 (.int .u8 0) 1 rfl Try.underlying37 info5 rfl (by decide) (by omega) v5 [t % 256] b _ _ _ (fun k_ => some k_ ≠ (.slice Ao b.length co : Value).ownBlock) (fun _ => False) rfl rfl ?aO ?aR (fun _ _ h => h) (fun _ h => h.elim) ?aF ?aB ?aS ?aL ?_; (case aR => exact (Kd.R_reads' HO4.out).2.2); (case aB => exact HB5.out); (case aF => exact (fun k_ hk => Kd.fresh' (Kd.R_lt HO4.out) k_ hk)); (case aO => exact Kd.R_mono HO5.out (fun _ hk => hk.2)); (case aS => exact HB5.out.size); (case aL => simp; omega); intro v6 w6 ho hb hg hat; rw [HR1.out] at ho; have HO := Aside0.mk ho; have HB := Aside0.mk hb; clear ho hb hg hat HO4 HO5 HB5 HR1))
        go_ret2
        exact ⟨_, rfl, Kd.R_mono HO.out (fun _ _ => trivial), HB.out⟩
    · have heb : (e2 != 0) = true := by simp [he]
      have A3 := A3'.out
      rw [if_neg he] at A3
      obtain ⟨rfl, rfl⟩ : [] = r1 ∧ 3 = r2 := by simpa using A3
      clear A3 he A3'
      go_wp2
      go_ret2
      exact dw_end_nil HB.out
theorem dict_Write.calls (k : Nat) (a0 : Int) (A1 : Option Addr) (c1 : Nat) (l1 : List Int) (r1 : List Int) (r2 : Int) (w : World) (hr1 : Kd.C (Kd.int .i64) w A1 l1.length l1) (hc1 : l1.length ≤ c1) (h : dict_Write.f k a0 l1 = some (r1, r2)) :
    Calls Try.prog 21 #[.int .i64 a0, .slice A1 l1.length c1] w fun e w' => ∃ v0_ : Value, e = .returned (.tuple #[v0_, .int .i64 r2]) ∧ Kd.R (Kd.int .u8) 5 w' w.heap.size (fun _ => True) v0_ r1 ∧ Below w.heap.size w w' := by
  unfold dict_Write.f at h
  by_cases c : a0 < 0
  · rw [if_pos c] at h
    obtain ⟨rfl, rfl⟩ : [] = r1 ∧ 2 = r2 := by simpa using h
    exact dw_neg A1 c1 l1 a0 w c
  rw [if_neg c] at h
  by_cases d : l1.any (dwBad a0) = true
  · rw [if_pos d] at h
    obtain ⟨rfl, rfl⟩ : [] = r1 ∧ 2 = r2 := by simpa using h
    exact dw_err A1 c1 l1 a0 2 w hr1 hc1 c (.inl ⟨d, rfl⟩)
  rw [if_neg d] at h
  have d' : l1.any (dwBad a0) = false := by simpa using d
  by_cases e : 65536 < a0
  · rw [if_pos e] at h
    obtain ⟨rfl, rfl⟩ : [] = r1 ∧ 3 = r2 := by simpa using h
    exact dw_err A1 c1 l1 a0 3 w hr1 hc1 c (.inr ⟨d', .inl e, rfl⟩)
  rw [if_neg e] at h
  by_cases f : 65536 < (l1.length : Int)
  · rw [if_pos f] at h
    obtain ⟨rfl, rfl⟩ : [] = r1 ∧ 3 = r2 := by simpa using h
    exact dw_err A1 c1 l1 a0 3 w hr1 hc1 c (.inr ⟨d', .inr f, rfl⟩)
  rw [if_neg f] at h
  obtain ⟨t, ht, h⟩ := Option.bind_eq_some_iff.1 h
  obtain ⟨⟨b, e2⟩, hb, h⟩ := Option.bind_eq_some_iff.1 h
  exact dw_fine k A1 c1 l1 a0 t b e2 r1 r2 w hr1 hc1 (by omega) d' (by omega) (by omega) ht hb h

end Go.Proofs.Ytpibhiacmceekaa.X
