/- LevelsBack: texts of this seat in one (wip/merge.py): Hr, Hq, Hh, Ha, Hw, X45, X46, X34, X55, X63, X20, X21, X22, X23, X24. -/
import Derived.Test.YtpibhiacmceekaaGLevelsBack0
import Derived.Test.YtpibhiacmceekaaGLevelsBack1
import Derived.Laws.CopyOwn
section
namespace Go.Proofs.Ytpibhiacmceekaa.X
open Go.RowKit Go.Proofs.YtpibhiacmceekaaW.PrintWords Go.Proofs.YtpibhiacmceekaaW.PrintLast Go.Proofs.YtpibhiacmceekaaW.PrintMore
set_option linter.unusedVariables false
set_option linter.unusedSimpArgs false
def hyRep (k : Nat) (b : List Int) (W n left : Int) (l : List Int) (a : Int) : Option (Int × List Int × Int) :=
  if n ≤ left then (if (W + 7) / 8 ≤ (b.length : Int) - a then (bits_ReadLittle.f k b a ((W + 7) / 8)).bind fun x => (bits_Width.f k x.1).bind fun t => if t ≤ W then (if 0 ≤ x.1 ∧ x.1 ≤ 4294967295 then some (0, l ++ List.replicate n.toNat x.1, a + (W + 7) / 8) else none) else some (8, [], 0) else some (6, [], 0)) else some (8, [], 0)
def HyOut (w0 : World) (vb : Value) (r : Int) (l : List Int) (a : Int) (M : Nat) (e : Ending) (w : World) : Prop :=
  (r = 0 ∧ (∃ v, e = .returned v) ∧ HyI w0 vb l a M w) ∨ (r ≠ 0 ∧ e = .panicked (stopP r) ∧ HyB w0 w)
theorem HyI.b {w0 w : World} {vb : Value} {l : List Int} {a : Int} {M : Nat} (h : HyI w0 vb l a M w) : HyB w0 w := by
  obtain ⟨_, _, _, _, h1, _⟩ := h; exact h1
theorem HyI.at_ {w0 w : World} {vb : Value} {l : List Int} {a : Int} {M : Nat} (h : HyI w0 vb l a M w) : w.cell? ⟨w0.heap.size + 3, 2, none⟩ = some (.int .i64 a) ∧ w.frozen? ⟨w0.heap.size + 3, 2, none⟩ = false := by
  obtain ⟨_, _, _, _, _, _, h3, _⟩ := h; exact ⟨blk_cell h3 2, blk_frozen h3 2⟩
theorem hy_info : (Try.prog.info? 3).map (fun i => (i.zero, i.size, i.bytes)) = some (some (.int .i64 0), 1, 8) := by kernel_rfl
theorem hy_infoR : (Try.prog.info? 118).map (fun i => (i.zero, i.size, i.bytes)) = some (some (.agg #[.bool false, .int .i64 0]), 2, 16) := by kernel_rfl
set_option maxRecDepth 100000 in
set_option maxHeartbeats 4000000 in
theorem hy_repeated (k : Nat) (w0 : World) (A : Option Addr) (c : Nat) (b : List Int) (W n left a : Int) (l : List Int) (r : Int) (l' : List Int) (a' : Int) (w : World) (hC : Kd.C (Kd.int .u8) w0 A b.length b) (hc : b.length ≤ c) (M : Nat) (hI : HyI w0 (.slice A b.length c) l a M w) (hM : M ≤ 200000000)
    (hW0 : 0 ≤ W) (hW1 : W ≤ 32) (hn0 : 1 ≤ n) (hn1 : n ≤ 4194304) (hl0 : 0 ≤ left) (hl1 : left ≤ 65536) (ha0 : 0 ≤ a) (ha1 : a ≤ b.length) (hb1 : b.length ≤ 1048576) (hll : l.length ≤ 65536) (h : hyRep k b W n left l a = some (r, l', a')) :
    Calls Try.prog 68 #[.pointer (some ⟨w0.heap.size + 3, 0, none⟩), .slice A b.length c, .int .i64 W, .int .i64 n, .int .i64 left] w (HyOut w0 (.slice A b.length c) r l' a' (M + 1)) := by
  have HC := Aside0.mk hC
  have HI := Aside0.mk hI
  have MO := Aside0.mk (fun why W => hy_must_ok why W)
  have MN := Aside0.mk (fun why W => hy_must_no why W)
  clear hC hI
  unfold hyRep at h
  by_cases c1 : n ≤ left
  · have d1 := decide_eq_true c1
    rw [if_pos c1] at h
    by_cases c2 : (W + 7) / 8 ≤ (b.length : Int) - a
    · have d2 := decide_eq_true c2
      rw [if_pos c2] at h
      obtain ⟨⟨x, xe⟩, hx, h⟩ := Option.bind_eq_some_iff.1 h
      obtain ⟨t, ht, h⟩ := Option.bind_eq_some_iff.1 h
      have HX := Aside0.mk (fun W' hC' => bits_ReadLittle.calls k A c b a ((W + 7) / 8) x xe W' hC' hc hx)
      have HT := Aside0.mk (fun W' => bits_Width.calls k x t W' ht)
      have H := Aside0.mk h
      obtain ⟨q0, q1⟩ := HI.out.at_
      clear hx ht h c1 q1
      go_enter Try.func68, Try.ntmps68
      go_wp2_with fail
      refine (MO.out _ _).mono ?_
      rintro e W1 ⟨⟨v1, rfl⟩, rfl⟩
      go_wp2_with fail
      refine (MO.out _ _).mono ?_
      rintro e W2 ⟨⟨v2, rfl⟩, rfl⟩
      go_wp2_with fail
      refine (HX.out _ (Kd.C_below HC.out HI.out.b.1)).mono ?_
      rintro e W3 ⟨rfl, hd3⟩
      have HI3 := Aside0.mk (HI.out.below hd3.below)
      clear HI HX hd3 q0 d1 d2
      by_cases c3 : t ≤ W
      · have d3 := decide_eq_true c3
        have H2 := H.out
        rw [if_pos c3] at H2
        by_cases c4 : 0 ≤ x ∧ x ≤ 4294967295
        · rw [if_pos c4] at H2
          have H' := Aside0.mk (show 0 = r ∧ l ++ List.replicate n.toNat x = l' ∧ a + (W + 7) / 8 = a' by simpa using H2)
          obtain ⟨x0, x1⟩ := c4
          clear H H2 c3
          go_wp2_with fail
          refine (HT.out _).mono ?_
          rintro e W4 ⟨rfl, hd4⟩
          have HI4 := Aside0.mk (HI3.out.below hd4.below)
          clear HI3 HT hd4
          go_wp2_with fail
          refine (MO.out _ _).mono ?_
          rintro e W5 ⟨⟨v5, rfl⟩, rfl⟩
          obtain ⟨q0, q1⟩ := HI4.out.at_
          go_wp2
          have HI5 := Aside0.mk (HI4.out.setAt (a + (W + 7) / 8))
          clear HI4 q0 q1 d3
          go_loopw [54] (fun v54 w' => ∃ j : Nat, v54 = .int .i64 j ∧ (j : Int) ≤ n ∧ Aside0 (HyI w0 (.slice A b.length c) (l ++ List.replicate j x) (a + (W + 7) / 8) M w')) (fun v54 _ => n.toNat - (intOf v54).toNat)
          case atStart => exact ⟨0, rfl, by omega, by simpa using HI5⟩
          case round =>
            clear HI5
            obtain ⟨j, rfl, hj, HJ⟩ := hrel
            obtain ⟨lv, rv, m, rs, hB, h2, h3, h4, h5, h6⟩ := HJ.out
            have HB := Aside0.mk hB
            have H2' := Aside0.mk h2
            have H3 := Aside0.mk h3
            have H4 := Aside0.mk h4
            have H5 := Aside0.mk h5
            have H6 := Aside0.mk h6
            clear HJ hB h2 h3 h4 h5 h6
            by_cases hlt : (j : Int) < n
            · have hltb := decide_eq_true hlt
              have q0 : wr.cell? ⟨w0.heap.size + 3, 0, none⟩ = some lv := blk_cell H3.out 0
              obtain ⟨ys, hys⟩ : ∃ ys, ys = l ++ List.replicate j x := ⟨_, rfl⟩
              rw [← hys] at H4
              have hyl : ys.length ≤ 200000000 := by rw [hys, List.length_append, List.length_replicate]; omega
              have Hys := Aside0.mk (show ys ++ [x] = l ++ List.replicate (j + 1) x by rw [hys, List.append_assoc, ← List.replicate_succ'])
              have HS := Aside0.mk (show w0.heap.size ≤ wr.heap.size from HB.out.1.size)
              clear hys
              go_wp2_with (first | ((with_reducible refine gate_builtin (b := .append) (xs := #[.tmp 60, .tmp 63]) rfl ?_); at_builtin; refine print_append_num (w0 := w0) w0.heap.size rfl (.tmp 60) (.tmp 63) 23 3 .i64 8 rfl Try.underlying23 hy_info (by decide) lv ys x rfl rfl H4.out HB.out.1 HS.out (by omega) ?_; intro v2 w2 ho2 hb2 hg2 hat2; obtain ⟨bk, cap, rfl, hbk, _⟩ := ho2.form (by simp); have q02 : w2.cell? ⟨w0.heap.size + 3, 0, none⟩ = some lv := blk_cell (blk_grown H3.out hg2 (own_ne H4.out H3.out (by decide))) 0; have q12 : w2.frozen? ⟨w0.heap.size + 3, 0, none⟩ = false := blk_frozen (blk_grown H3.out hg2 (own_ne H4.out H3.out (by decide))) 0; have ho2 := Aside0.mk ho2; have hb2 := Aside0.mk hb2; have hg2 := Aside0.mk hg2; clear hat2 q0))
              go_roundw
              case measure => simp [intOf]; omega
              case rel => exact ⟨j + 1, by go_num, by omega, ⟨by have := HyI.putL (a := a + (W + 7) / 8) HB.out H2'.out H3.out H4.out H5.out H6.out ho2.out hb2.out hg2.out; rwa [show (ys ++ [x]).length = ys.length + 1 from by simp, Hys.out] at this⟩⟩
            · have hltb := decide_eq_false hlt
              have q0 : wr.cell? ⟨w0.heap.size + 3, 1, none⟩ = some rv := blk_cell H3.out 1
              have HS := Aside0.mk (show w0.heap.size ≤ wr.heap.size from HB.out.1.size)
              have hjn : (j : Int) = n := by omega
              have hlen : (l ++ List.replicate j x).length ≤ 200000000 := by rw [List.length_append, List.length_replicate]; omega
              have hj1 : 1 ≤ j := by omega
              have HM := Aside0.mk (show m ≤ 200000000 from Nat.le_trans H6.out hM)
              go_wp2_with (first | ((with_reducible refine gate_builtin (b := .append) (xs := #[.tmp 72, .tmp 75]) rfl ?_); at_builtin; refine print_append_cells (w0 := w0) w0.heap.size rfl (.tmp 72) (.tmp 75) 80 118 (.agg #[.bool false, .int .i64 0]) 2 16 rfl Try.underlying80 hy_infoR rfl (by decide) (by decide) rv m rs [.bool false, .int .i64 n] rfl rfl rfl (by simp [Value.oneCell']) H5.out HB.out.1 HS.out (by have := HM.out; omega) ?_; intro v2 w2 ho2 hb2 hg2 hat2; obtain ⟨bk, cap, rfl, hbk, _⟩ := ho2.form (by simp); have q02 : w2.cell? ⟨w0.heap.size + 3, 1, none⟩ = some rv := blk_cell (blk_grown H3.out hg2 (own_ne H5.out H3.out (by decide))) 1; have q12 : w2.frozen? ⟨w0.heap.size + 3, 1, none⟩ = false := blk_frozen (blk_grown H3.out hg2 (own_ne H5.out H3.out (by decide))) 1; have ho2 := Aside0.mk ho2; have hb2 := Aside0.mk hb2; have hg2 := Aside0.mk hg2; clear hat2 q0))
              go_end0
              obtain ⟨rfl, rfl, rfl⟩ := H'.out
              refine .inl ⟨rfl, ⟨_, rfl⟩, ?_⟩
              have := HyI.putR (M := M + 1) (a := a + (W + 7) / 8) HB.out H2'.out H3.out H4.out H5.out (by have := H6.out; omega) ho2.out hb2.out hg2.out
              rwa [show n.toNat = j by omega]
        · rw [if_neg c4] at H2
          exact absurd H2 (by simp)
      · have d3 := decide_eq_false c3
        have H2 := H.out
        rw [if_neg c3] at H2
        have H' := Aside0.mk (show 8 = r ∧ [] = l' ∧ 0 = a' by simpa using H2)
        clear H H2 c3
        go_wp2_with fail
        refine (HT.out _).mono ?_
        rintro e W4 ⟨rfl, hd4⟩
        have HI4 := Aside0.mk (HI3.out.below hd4.below)
        clear HI3 HT hd4
        go_wp2_with fail
        refine (MN.out _ _).mono ?_
        rintro e W5 ⟨rfl, rfl⟩
        obtain ⟨rfl, rfl, rfl⟩ := H'.out
        exact ⟨rfl, .inr ⟨by decide, rfl, HI4.out.b⟩⟩
    · have d2 := decide_eq_false c2
      rw [if_neg c2] at h
      have H' := Aside0.mk (show 6 = r ∧ [] = l' ∧ 0 = a' by simpa using h)
      obtain ⟨q0, q1⟩ := HI.out.at_
      clear h c1 q1 c2
      go_enter Try.func68, Try.ntmps68
      go_wp2_with fail
      refine (MO.out _ _).mono ?_
      rintro e W1 ⟨⟨v1, rfl⟩, rfl⟩
      go_wp2_with fail
      refine (MN.out _ _).mono ?_
      rintro e W5 ⟨rfl, rfl⟩
      obtain ⟨rfl, rfl, rfl⟩ := H'.out
      exact ⟨rfl, .inr ⟨by decide, rfl, HI.out.b⟩⟩
  · have d1 := decide_eq_false c1
    rw [if_neg c1] at h
    have H' := Aside0.mk (show 8 = r ∧ [] = l' ∧ 0 = a' by simpa using h)
    clear h c1
    go_enter Try.func68, Try.ntmps68
    go_wp2_with fail
    refine (MN.out _ _).mono ?_
    rintro e W5 ⟨rfl, rfl⟩
    obtain ⟨rfl, rfl, rfl⟩ := H'.out
    exact ⟨rfl, .inr ⟨by decide, rfl, HI.out.b⟩⟩
end Go.Proofs.Ytpibhiacmceekaa.X
end

section
namespace Go.Proofs.Ytpibhiacmceekaa.X
open Go.RowKit Go.Proofs.YtpibhiacmceekaaW.PrintWords Go.Proofs.YtpibhiacmceekaaW.PrintLast Go.Proofs.YtpibhiacmceekaaW.PrintMore
set_option linter.unusedVariables false
set_option linter.unusedSimpArgs false
def hyPut (left : Int) : List Int → Int → List Int → Option (Int × List Int)
  | [], _, l => some (0, l)
  | x :: xs, i, l => if i < left then (if 0 ≤ x ∧ x ≤ 9223372036854775807 then hyPut left xs (i + 1) (l ++ [x]) else none) else if x = 0 then hyPut left xs (i + 1) l else some (8, [])
def hyPack (k : Nat) (b : List Int) (W n left : Int) (l : List Int) (a : Int) : Option (Int × List Int × Int) :=
  if n ≤ (left + 7) / 8 then (if n * W ≤ (b.length : Int) - a then (bits_Unpack.f k ((b.take (a + n * W).toNat).drop a.toNat) W (8 * n)).bind fun u => if u.2 = 0 then (hyPut left u.1 0 l).bind fun p => if p.1 = 0 then some (0, p.2, a + n * W) else some (p.1, [], 0) else some (u.2, [], 0) else some (6, [], 0)) else some (8, [], 0)
theorem hy_slice (A : Option Addr) (c len : Nat) (lo hi : Int) (h0 : 0 ≤ lo) (h1 : lo ≤ hi) (h2 : hi ≤ (c : Int)) (W : World) :
    (Instr.slice 37 (.slice A len c) (some (.int .i64 lo)) (some (.int .i64 hi)) none).run Try.prog W = .ok (.slice (if c = lo.toNat then A else A.map (·.add (lo.toNat * 1))) (hi.toNat - lo.toNat) (c - lo.toNat)) W := by
  have e1 : lo.toNat ≤ hi.toNat := by omega
  have hs : (Try.prog.info? 5).map (·.size) = some 1 := by kernel_rfl
  cases hq : Try.prog.info? 5 with
  | none => simp [hq] at hs
  | some i =>
    have hs1 : i.size = 1 := by simpa [hq] using hs
    obtain ⟨l, rfl⟩ := Int.eq_ofNat_of_zero_le h0
    obtain ⟨h, rfl⟩ := Int.eq_ofNat_of_zero_le (show 0 ≤ hi by omega)
    unfold Instr.slice
    simp only [Sem.run_bind, run_underlying Try.underlying37, Result.andThen_ok]
    simp only [Instr.sliceBounds, Sem.run_bind, Sem.run_pure, Result.andThen_ok]
    have r1 := run_sliceBound (P := Try.prog) W .i64 (h : Int) c .sliceAcap (by omega) h2
    have r2 := run_sliceBound (P := Try.prog) W .i64 (l : Int) h .sliceB (by omega) h1
    simp [r1, r2, sizeOf, typeInfo, hq, hs1, Sem.run_bind]
theorem hy_drop {l : List Int} {i : Nat} (h : i < l.length) : l.drop i = l.getD i 0 :: l.drop (i + 1) := by
  rw [List.drop_eq_getElem_cons h, List.getD_eq_getElem?_getD, List.getElem?_eq_getElem h]; rfl
set_option maxRecDepth 100000 in
set_option maxHeartbeats 8000000 in
theorem hy_packed (k : Nat) (w0 : World) (A : Option Addr) (c : Nat) (b : List Int) (W n left a : Int) (l : List Int) (r : Int) (l' : List Int) (a' : Int) (w : World) (hC : Kd.C (Kd.int .u8) w0 A b.length b) (hc : b.length ≤ c) (M : Nat) (hI : HyI w0 (.slice A b.length c) l a M w) (hM : M ≤ 200000000)
    (hW0 : 0 ≤ W) (hW1 : W ≤ 32) (hn0 : 1 ≤ n) (hn1 : n ≤ 4194304) (hl0 : 0 ≤ left) (hl1 : left ≤ 65536) (ha0 : 0 ≤ a) (ha1 : a ≤ b.length) (hb1 : b.length ≤ 1048576) (hll : l.length ≤ 65536) (h : hyPack k b W n left l a = some (r, l', a')) :
    Calls Try.prog 69 #[.pointer (some ⟨w0.heap.size + 3, 0, none⟩), .slice A b.length c, .int .i64 W, .int .i64 n, .int .i64 left] w (HyOut w0 (.slice A b.length c) r l' a' (M + 1)) := by
  have HC := Aside0.mk hC
  have HI := Aside0.mk hI
  have MO := Aside0.mk (fun why W => hy_must_ok why W)
  have MN := Aside0.mk (fun why W => hy_must_no why W)
  have RO := Aside0.mk (fun W => hy_right_ok W)
  have RN := Aside0.mk (fun why h W => hy_right_no why h W)
  clear hC hI
  unfold hyPack at h
  have hp0 : 0 ≤ n * W := Int.mul_nonneg (by omega) hW0
  have hp1 : n * W ≤ 134217728 := by have := Int.mul_le_mul hn1 hW1 hW0 (by omega); omega
  by_cases c1 : n ≤ (left + 7) / 8
  · have d1 := decide_eq_true c1
    rw [if_pos c1] at h
    by_cases c2 : n * W ≤ (b.length : Int) - a
    · have d2 := decide_eq_true c2
      rw [if_pos c2] at h
      obtain ⟨⟨u, ue⟩, hu, h⟩ := Option.bind_eq_some_iff.1 h
      have H := Aside0.mk h
      obtain ⟨q0, q1⟩ := HI.out.at_
      have e1 : (a + n * W).toNat = a.toNat + (n * W).toNat := by omega
      obtain ⟨V, hV⟩ : ∃ V, V = Value.slice (if c = a.toNat then A else A.map (·.add (a.toNat * 1))) ((a + n * W).toNat - a.toNat) (c - a.toNat) := ⟨_, rfl⟩
      have hsl := fun W' => hy_slice A c b.length a (a + n * W) ha0 (by omega) (by omega) W'
      have HU : ∀ W', Below w0.heap.size w0 W' → Calls Try.prog 75 #[V, .int .i64 W, .int .i64 (8 * n)] W' fun e w' => ∃ v0_ : Value, e = .returned (.tuple #[v0_, .int .i64 ue]) ∧ Kd.R (Kd.int .u64) 61 w' W'.heap.size (fun _ => True) v0_ u ∧ Below W'.heap.size W' w' := by
        intro W' hB'
        have hm := Kd.C_mid (lo := a.toNat) (hi := (a + n * W).toNat) (c := c) (Kd.C_below HC.out hB') (by omega) (by omega) hc
        have hlen : ((b.take (a + n * W).toNat).drop a.toNat).length = (a + n * W).toNat - a.toNat := by rw [List.length_drop, List.length_take]; omega
        have := bits_Unpack.calls k _ (c - a.toNat) ((b.take (a + n * W).toNat).drop a.toNat) W (8 * n) u ue W' hm (by rw [hlen]; omega) hu
        rw [hlen] at this
        rw [hV]; exact this
      rw [← hV] at hsl
      have HU := Aside0.mk HU
      clear h c1 q1 hV hu e1
      go_enter Try.func69, Try.ntmps69
      go_wp2_with fail
      refine (MO.out _ _).mono ?_
      rintro e W1 ⟨⟨v1, rfl⟩, rfl⟩
      go_wp2_with fail
      refine (MO.out _ _).mono ?_
      rintro e W2 ⟨⟨v2, rfl⟩, rfl⟩
      go_wp2_with fail
      have g1 : IntKind.i64.wrap (n * W) = n * W := IntWalk.i64_in _ (by omega)
      have g2 : IntKind.i64.wrap (a + n * W) = a + n * W := IntWalk.i64_in _ (by omega)
      have g3 : IntKind.i64.wrap (8 * n) = 8 * n := IntWalk.i64_in _ (by omega)
      go_region_with (go_at_call 75; refine (HU.out _ (by repeat (first | exact HI.out.b.1 | apply pw_below_drewN | apply below_drew1))).mono ?_; rintro e W3 ⟨v0, rfl, hR, hB⟩)
      all_goals
        clear g1 g2 g3 hsl HU
        have hB' : Below W2.heap.size W2 W3 := (below_drew (Below.refl W2.heap.size W2)).trans hB
        have HI3 := Aside0.mk (show HyI w0 (.slice A b.length c) l a M W3 from HI.out.below hB')
        have HU3 := Aside0.mk (Kd.own_of_R (Kd.R_lower hR (show w0.heap.size ≤ W2.heap.size from HI.out.b.1.size)))
        obtain ⟨Ao, co, rfl⟩ := Kd.R_slice hR
        have hul : u.length ≤ 9223372036854775807 := (Kd.R_reads' hR).2.2.2.1
        clear hR hB hB' HI q0
        by_cases c3 : ue = 0
        · subst c3
          have H2 := H.out
          rw [if_pos rfl] at H2
          obtain ⟨⟨pe, pl⟩, hp, H2⟩ := Option.bind_eq_some_iff.1 H2
          have HP := Aside0.mk hp
          have H' := Aside0.mk H2
          clear H hp H2
          go_wp2_with fail
          refine (RO.out _).mono ?_
          rintro e W5 ⟨⟨v5, rfl⟩, rfl⟩
          obtain ⟨q0, q1⟩ := HI3.out.at_
          go_wp2
          have HI5 := Aside0.mk (HI3.out.setAt (a + n * W))
          have HU5 := Aside0.mk (own_setCell HU3.out (p := ⟨w0.heap.size + 3, 2, none⟩) (by obtain ⟨_, _, _, _, _, _, h3, _⟩ := HI3.out; exact own_ne HU3.out h3 (by decide)) (.int .i64 (a + n * W)))
          clear HI3 HU3 q0 q1
          go_loopw [67] (fun v67 w' => ∃ (j : Nat) (l1 : List Int), v67 = .int .i64 j ∧ j ≤ u.length ∧ Aside0 (hyPut left (u.drop j) (j : Int) l1 = some (pe, pl)) ∧ Aside0 (l1.length ≤ l.length + j ∧ l1.length ≤ l.length + 65536) ∧ Aside0 (HyI w0 (.slice A b.length c) l1 (a + n * W) M w') ∧ Aside0 (w'.ownsRow w0.heap.size 61 1 (.slice Ao u.length co) u.length (nums .u64 u))) (fun v67 _ => u.length - (intOf v67).toNat)
          case atStart => exact ⟨0, l, rfl, Nat.zero_le _, HP, ⟨by omega, by omega⟩, HI5, HU5⟩
          case round =>
            clear HI5 HU5 HP
            obtain ⟨j, l1, rfl, hj, HP, HL, HJ, HU⟩ := hrel
            obtain ⟨lv, rv, m, rs, hB, h2, h3, h4, h5, h6⟩ := HJ.out
            have HB := Aside0.mk hB
            have H2' := Aside0.mk h2
            have H3 := Aside0.mk h3
            have H4 := Aside0.mk h4
            have H5 := Aside0.mk h5
            have H6 := Aside0.mk h6
            clear hB h2 h3 h4 h5 h6
            by_cases hlt : j < u.length
            · have hP := HP.out
              rw [hy_drop hlt, hyPut] at hP
              obtain ⟨g, cap, hform, _⟩ := HU.out.form (by omega)
              simp only [Value.slice.injEq] at hform
              obtain ⟨rfl, _, rfl⟩ := hform
              obtain ⟨qx, _⟩ := own_at HU.out (j : Int) (by omega) (by omega)
              have e : rd u (j : Int) = u.getD j 0 := rfl
              rw [e, show ((j : Int)).toNat = j from rfl] at qx
              obtain ⟨x, hx⟩ : ∃ x, x = u.getD j 0 := ⟨_, rfl⟩
              rw [← hx] at qx hP
              clear e hx HP
              by_cases c4 : (j : Int) < left
              · have d4 := decide_eq_true c4
                rw [if_pos c4] at hP
                by_cases c5 : 0 ≤ x ∧ x ≤ 9223372036854775807
                · rw [if_pos c5] at hP
                  obtain ⟨x0, x1⟩ := c5
                  have HP' := Aside0.mk hP
                  clear hP HJ
                  have q0 : wr.cell? ⟨w0.heap.size + 3, 0, none⟩ = some lv := blk_cell H3.out 0
                  have hyl : l1.length ≤ 200000000 := by have := HL.out; omega
                  have HS := Aside0.mk (show w0.heap.size ≤ wr.heap.size from HB.out.1.size)
                  go_wp2_with fail
                  refine (MO.out _ _).mono ?_
                  rintro e W7 ⟨⟨v7, rfl⟩, rfl⟩
                  go_wp2_with (first | ((with_reducible refine gate_builtin (b := .append) (xs := #[.tmp 87, .tmp 90]) rfl ?_); at_builtin; refine print_append_num (w0 := w0) w0.heap.size rfl (.tmp 87) (.tmp 90) 23 3 .i64 8 rfl Try.underlying23 hy_info (by decide) lv l1 x rfl rfl H4.out HB.out.1 HS.out (by omega) ?_; intro v2 w2 ho2 hb2 hg2 hat2; obtain ⟨bk, cap, rfl, hbk, _⟩ := ho2.form (by simp); have q02 : w2.cell? ⟨w0.heap.size + 3, 0, none⟩ = some lv := blk_cell (blk_grown H3.out hg2 (own_ne H4.out H3.out (by decide))) 0; have q12 : w2.frozen? ⟨w0.heap.size + 3, 0, none⟩ = false := blk_frozen (blk_grown H3.out hg2 (own_ne H4.out H3.out (by decide))) 0; have ho2 := Aside0.mk ho2; have hb2 := Aside0.mk hb2; have hg2 := Aside0.mk hg2; clear hat2 q0))
                  go_roundw
                  case measure => simp [intOf]; omega
                  case rel => exact ⟨j + 1, l1 ++ [x], by go_num, by omega, HP', ⟨by have := HL.out; simp; omega⟩, ⟨by have := HyI.putL (a := a + n * W) HB.out H2'.out H3.out H4.out H5.out H6.out ho2.out hb2.out hg2.out; rwa [show (l1 ++ [x]).length = l1.length + 1 from by simp] at this⟩, ⟨by have g3 := blk_grown H3.out hg2.out (own_ne H4.out H3.out (by decide)); have := own_other HU.out hg2.out (own_apart H4.out HU.out (by decide)); exact own_setCell this (own_ne this g3 (by decide)) _⟩⟩
                · rw [if_neg c5] at hP
                  exact absurd hP (by simp)
              · have d4 := decide_eq_false c4
                rw [if_neg c4] at hP
                by_cases c5 : x = 0
                · have d5 : (x == 0) = true := by simp [c5]
                  rw [if_pos c5] at hP
                  have HP' := Aside0.mk hP
                  clear hP c5
                  go_wp2_with fail
                  refine (MO.out _ _).mono ?_
                  rintro e W7 ⟨⟨v7, rfl⟩, rfl⟩
                  go_wp2
                  go_roundw
                  case measure => simp [intOf]; omega
                  case rel => exact ⟨j + 1, l1, by go_num, by omega, HP', ⟨by have := HL.out; omega⟩, HJ, HU⟩
                · have d5 : (x == 0) = false := by simp [c5]
                  rw [if_neg c5] at hP
                  obtain ⟨rfl, rfl⟩ : 8 = pe ∧ [] = pl := by simpa using hP
                  have HQ := Aside0.mk (show 8 = r ∧ [] = l' ∧ 0 = a' by simpa using H'.out)
                  clear hP c5 H'
                  go_wp2_with fail
                  refine (MN.out _ _).mono ?_
                  rintro e W7 ⟨rfl, rfl⟩
                  obtain ⟨rfl, rfl, rfl⟩ := HQ.out
                  exact ⟨rfl, .inr ⟨by decide, rfl, HB.out⟩⟩
            · have hP := HP.out
              rw [List.drop_eq_nil_of_le (by omega), hyPut] at hP
              obtain ⟨rfl, rfl⟩ : 0 = pe ∧ l1 = pl := by simpa using hP
              have HQ := Aside0.mk (show 0 = r ∧ l1 = l' ∧ a + n * W = a' by simpa using H'.out)
              clear hP HP H' HJ HU
              have q0 : wr.cell? ⟨w0.heap.size + 3, 1, none⟩ = some rv := blk_cell H3.out 1
              have HS := Aside0.mk (show w0.heap.size ≤ wr.heap.size from HB.out.1.size)
              have HM := Aside0.mk (show m ≤ 200000000 from Nat.le_trans H6.out hM)
              go_wp2_with (first | ((with_reducible refine gate_builtin (b := .append) (xs := #[.tmp 99, .tmp 105]) rfl ?_); at_builtin; refine print_append_cells (w0 := w0) w0.heap.size rfl (.tmp 99) (.tmp 105) 80 118 (.agg #[.bool false, .int .i64 0]) 2 16 rfl Try.underlying80 hy_infoR rfl (by decide) (by decide) rv m rs [_, _] rfl rfl rfl (by simp [Value.oneCell']) H5.out HB.out.1 HS.out (by have := HM.out; omega) ?_; intro v2 w2 ho2 hb2 hg2 hat2; obtain ⟨bk, cap, rfl, hbk, _⟩ := ho2.form (by simp); have q02 : w2.cell? ⟨w0.heap.size + 3, 1, none⟩ = some rv := blk_cell (blk_grown H3.out hg2 (own_ne H5.out H3.out (by decide))) 1; have q12 : w2.frozen? ⟨w0.heap.size + 3, 1, none⟩ = false := blk_frozen (blk_grown H3.out hg2 (own_ne H5.out H3.out (by decide))) 1; have ho2 := Aside0.mk ho2; have hb2 := Aside0.mk hb2; have hg2 := Aside0.mk hg2; clear hat2 q0))
              all_goals
                go_end0
                obtain ⟨rfl, rfl, rfl⟩ := HQ.out
                exact .inl ⟨rfl, ⟨_, rfl⟩, HyI.putR (M := M + 1) (a := a + n * W) HB.out H2'.out H3.out H4.out H5.out (by have := H6.out; omega) ho2.out hb2.out hg2.out⟩
        · have H2 := H.out
          rw [if_neg c3] at H2
          have H' := Aside0.mk (show ue = r ∧ [] = l' ∧ 0 = a' by simpa using H2)
          clear H H2
          have HN := Aside0.mk (fun W => RN.out ue c3 W)
          have C3 := Aside0.mk c3
          clear c3
          go_wp2_with fail
          refine (HN.out _).mono ?_
          rintro e W5 ⟨rfl, rfl⟩
          obtain ⟨h1, rfl, rfl⟩ := H'.out
          rw [← h1]
          exact ⟨rfl, .inr ⟨C3.out, rfl, HI3.out.b⟩⟩
    · have d2 := decide_eq_false c2
      rw [if_neg c2] at h
      have H' := Aside0.mk (show 6 = r ∧ [] = l' ∧ 0 = a' by simpa using h)
      obtain ⟨q0, q1⟩ := HI.out.at_
      clear h c1 q1 c2
      go_enter Try.func69, Try.ntmps69
      go_wp2_with fail
      refine (MO.out _ _).mono ?_
      rintro e W1 ⟨⟨v1, rfl⟩, rfl⟩
      go_wp2_with fail
      refine (MN.out _ _).mono ?_
      rintro e W5 ⟨rfl, rfl⟩
      obtain ⟨rfl, rfl, rfl⟩ := H'.out
      exact ⟨rfl, .inr ⟨by decide, rfl, HI.out.b⟩⟩
  · have d1 := decide_eq_false c1
    rw [if_neg c1] at h
    have H' := Aside0.mk (show 8 = r ∧ [] = l' ∧ 0 = a' by simpa using h)
    clear h c1
    go_enter Try.func69, Try.ntmps69
    go_wp2_with fail
    refine (MN.out _ _).mono ?_
    rintro e W5 ⟨rfl, rfl⟩
    obtain ⟨rfl, rfl, rfl⟩ := H'.out
    exact ⟨rfl, .inr ⟨by decide, rfl, HI.out.b⟩⟩
end Go.Proofs.Ytpibhiacmceekaa.X
end

section
namespace Go.Proofs.Ytpibhiacmceekaa.X
open Go.RowKit Go.Proofs.YtpibhiacmceekaaW.PrintWords Go.Proofs.YtpibhiacmceekaaW.PrintLast Go.Proofs.YtpibhiacmceekaaW.PrintMore
set_option linter.unusedVariables false
set_option linter.unusedSimpArgs false
theorem caught_no (p : Addr) (w : World) :
    CallsD Try.prog 63 #[.pointer (some p)] .returning w fun e u' w' => (∃ v, e = .returned v) ∧ u' = .returning ∧ w' = w := by
  refine callsD_of_wpS Try.func63 rfl fun c₀ cs hu => ?_
  apply wpS_seq
  apply wpS_region
  simp [wpOpsS, go_sem, recoverD, hu, Try.ntmps63, Exit.thenS]
  refine wpS_of_wp ?_
  go_wp2
  cases c₀
  simp_all [bodyPostS, results, Try.results63]
theorem hy_assert (why : Int) (W : World) : (Instr.typeAssert (.iface 114 (.agg #[.int .i64 why])) 20 114 true).run Try.prog W = .ok (.tuple #[.agg #[.int .i64 why], .bool true]) W := by kernel_rfl
set_option maxRecDepth 100000 in
set_option maxHeartbeats 1000000 in
theorem caught_yes (p : Addr) (x why : Int) (w : World) (hc : w.cell? p = some (.int .i64 x)) (hz : w.frozen? p = false) (hp : p.block < w.heap.size) :
    CallsD Try.prog 63 #[.pointer (some p)] (.panicking (stopP why)) w fun e u' w' =>
      (∃ v, e = .returned v) ∧ u' = .panicking [{ v := .iface 114 (.agg #[.int .i64 why]), recovered := true }] ∧ w' = (w.alloc (.cells #[.int .i64 why] 114)).setCell p (.int .i64 why) := by
  refine callsD_of_wpS Try.func63 rfl fun c₀ cs hu => ?_
  unfold stopP at hu
  apply wpS_seq
  apply wpS_region
  simp [wpOpsS, go_sem, recoverD, hu, Try.ntmps63, Exit.thenS]
  refine wpS_of_wp ?_
  clear hu
  have e : (#[Value.pointer (some p)] ++ (Array.replicate 14 undef).setIfInBounds 4 (.iface 114 (.agg #[.int .i64 why]))) = #[Value.pointer (some p), undef, undef, undef, undef, .iface 114 (.agg #[.int .i64 why]), undef, undef, undef, undef, undef, undef, undef, undef, undef] := rfl
  rw [e]
  clear e
  have ht := hy_assert why
  have hc' : (w.alloc (.cells #[.int .i64 why] 114)).cell? p = some (.int .i64 x) := by rw [World.cell?_alloc_lt _ _ _ hp]; exact hc
  have hz' : (w.alloc (.cells #[.int .i64 why] 114)).frozen? p = false := by
    have := (below_alloc (Below.refl w.heap.size w) (.cells #[.int .i64 why] 114)).frozen (p := p) hp
    rw [this]; exact hz
  clear hc hz hp
  go_wp2_with fail
  cases c₀
  simp_all [bodyPostS, results, Try.results63]
def HyHd (w0 : World) (vb : Value) (l : List Int) (M : Nat) (h nx er : Int) (e : Ending) (w : World) : Prop :=
  (er = 0 ∧ 2 ≤ h ∧ h ≤ 4194304 ∧ e = .returned (.int .i64 h) ∧ HyI w0 vb l nx M w) ∨ (er = 0 ∧ ¬ (2 ≤ h ∧ h ≤ 4194304) ∧ e = .panicked (stopP 8) ∧ HyB w0 w) ∨ (er ≠ 0 ∧ e = .panicked (stopP er) ∧ HyB w0 w)
theorem HyI.bytes {w0 w : World} {vb : Value} {l : List Int} {a : Int} {M : Nat} (h : HyI w0 vb l a M w) : w.cell? ⟨w0.heap.size, 0, none⟩ = some vb := by
  obtain ⟨_, _, _, _, _, h2, _⟩ := h; exact blk_cell h2 0
set_option maxRecDepth 100000 in
set_option maxHeartbeats 2000000 in
theorem hy_head (k : Nat) (w0 : World) (A : Option Addr) (c : Nat) (b : List Int) (a : Int) (l : List Int) (M : Nat) (h nx er : Int) (w : World) (hC : Kd.C (Kd.int .u8) w0 A b.length b) (hc : b.length ≤ c) (hI : HyI w0 (.slice A b.length c) l a M w)
    (hx : bits_ReadVarint.f k b a = some (h, nx, er)) :
    Calls Try.prog 65 #[.pointer (some ⟨w0.heap.size, 0, none⟩), .pointer (some ⟨w0.heap.size + 3, 0, none⟩)] w (HyHd w0 (.slice A b.length c) l M h nx er) := by
  have HI := Aside0.mk hI
  have MO := Aside0.mk (fun why W => hy_must_ok why W)
  have MN := Aside0.mk (fun why W => hy_must_no why W)
  have RO := Aside0.mk (fun W => hy_right_ok W)
  have RN := Aside0.mk (fun why h W => hy_right_no why h W)
  have HV := Aside0.mk (bits_ReadVarint.calls k A c b a h nx er w (Kd.C_below hC hI.b.1) hc hx)
  have q0 := hI.bytes
  obtain ⟨q1, _⟩ := hI.at_
  clear hC hI hx
  go_enter Try.func65, Try.ntmps65
  go_wp2_with fail
  refine HV.out.mono ?_
  rintro e W1 ⟨rfl, hB⟩
  have HI1 := Aside0.mk (HI.out.below hB)
  clear hB HI q0 q1
  by_cases c1 : er = 0
  · subst c1
    go_wp2_with fail
    refine (RO.out _).mono ?_
    rintro e W2 ⟨⟨v2, rfl⟩, rfl⟩
    by_cases c2 : 2 ≤ h
    · have d2 := decide_eq_true c2
      by_cases c3 : h ≤ 4194304
      · have d3 := decide_eq_true c3
        go_wp2_with fail
        refine (MO.out _ _).mono ?_
        rintro e W3 ⟨⟨v3, rfl⟩, rfl⟩
        obtain ⟨q0, q1⟩ := HI1.out.at_
        go_wp2
        go_ret
        exact .inl ⟨rfl, by omega, by omega, rfl, HI1.out.setAt nx⟩
      · have d3 := decide_eq_false c3
        have C3 := Aside0.mk c3
        clear c3
        go_wp2_with fail
        refine (MN.out _ _).mono ?_
        rintro e W3 ⟨rfl, rfl⟩
        exact ⟨rfl, .inr (.inl ⟨rfl, fun h => by have := C3.out; omega, rfl, HI1.out.b⟩)⟩
    · have d2 := decide_eq_false c2
      have C2 := Aside0.mk c2
      clear c2
      go_wp2_with fail
      refine (MN.out _ _).mono ?_
      rintro e W3 ⟨rfl, rfl⟩
      exact ⟨rfl, .inr (.inl ⟨rfl, fun h => by have := C2.out; omega, rfl, HI1.out.b⟩)⟩
  · have C1 := Aside0.mk c1
    have HN := Aside0.mk (fun W => RN.out er c1 W)
    clear c1
    go_wp2_with fail
    refine (HN.out _).mono ?_
    rintro e W2 ⟨rfl, rfl⟩
    exact ⟨rfl, .inr (.inr ⟨C1.out, rfl, HI1.out.b⟩)⟩
end Go.Proofs.Ytpibhiacmceekaa.X
end

section
namespace Go.Proofs.Ytpibhiacmceekaa.X
open Go.RowKit Go.Proofs.YtpibhiacmceekaaW.PrintWords Go.Proofs.YtpibhiacmceekaaW.PrintLast Go.Proofs.YtpibhiacmceekaaW.PrintMore
set_option linter.unusedVariables false
set_option linter.unusedSimpArgs false
def hyAll : Nat → List Int → Int → Int → List Int → Int → Option (Int × List Int × Int)
  | 0, _, _, _, _, _ => none
  | k + 1, b, W, count, l, a =>
    if (l.length : Int) < count then (bits_ReadVarint.f k b a).bind fun v =>
      if v.2.2 = 0 then (if 2 ≤ v.1 ∧ v.1 ≤ 4194304 then (if 0 ≤ v.2.1 ∧ v.2.1 ≤ (b.length : Int) then
        (if v.1 % 2 = 0 then hyRep k b W (v.1 / 2) (count - l.length) l v.2.1 else hyPack k b W (v.1 / 2) (count - l.length) l v.2.1).bind fun p =>
          if p.1 = 0 then (if l.length < p.2.1.length ∧ (p.2.1.length : Int) ≤ count ∧ 0 ≤ p.2.2 ∧ p.2.2 ≤ (b.length : Int) then hyAll k b W count p.2.1 p.2.2 else none) else some (p.1, [], 0) else none) else some (8, [], 0)) else some (v.2.2, [], 0)
    else some (0, l, a)
def hyF (k : Nat) (b : List Int) (W count : Int) : Option (Int × List Int × Int) :=
  if W < 0 then some (2, [], 0) else if 32 < W then some (2, [], 0) else if count < 0 then some (2, [], 0) else if 1048576 < (b.length : Int) then some (3, [], 0) else if 65536 < count then some (3, [], 0) else hyAll k b W count [] 0
def HyEnd (w0 : World) (r : Int) (l : List Int) (a : Int) (e : Ending) (w : World) : Prop :=
  ∃ lv Ar m cr, e = .returned (.tuple #[.agg #[lv, .slice Ar m cr, .int .i64 a], .int .i64 r]) ∧ w.ownsRow w0.heap.size 3 1 lv l.length (nums .i64 l) ∧ Below w0.heap.size w0 w
theorem hy_results (tmps : Array Value) (w : World) (g6 g7 : Nat) (x y z : Value) (n : Int) (h6 : tmps.getD 6 undef = .pointer (some ⟨g6, 0, none⟩)) (h7 : tmps.getD 7 undef = .pointer (some ⟨g7, 0, none⟩))
    (hg6 : w.heap[g6]? = some (.cells #[x, y, z] 82 (0, 0))) (hg7 : w.heap[g7]? = some (.cells #[.int .i64 n] 24 (0, 0))) :
    (results Try.f53 tmps).run Try.prog w = .ok (.tuple #[.agg #[x, y, z], .int .i64 n]) w := by
  have h6' : tmps[6]?.getD undef = .pointer (some ⟨g6, 0, none⟩) := by simpa using h6
  have h7' : tmps[7]?.getD undef = .pointer (some ⟨g7, 0, none⟩) := by simpa using h7
  have r6 := run_loadVar_row (P := Try.prog) w g6 82 82 #[x, y, z] (0, 0) _ hg6 Try.underlying82 rfl (by kernel_rfl)
  have hc : w.cell? ⟨g7, 0, none⟩ = some (.int .i64 n) := blk_cell hg7 0
  have r7 : (loadVar 24 ⟨g7, 0, none⟩).run Try.prog w = .ok (.int .i64 n) w := by
    simp [loadVar, isAgg, Sem.run_bind, run_underlying Try.underlying24, hc, go_sem]
  simp [results, Try.results53, h6', h7', asAddr, r6, r7]
theorem hy_start (w : World) (vb : Value) : HyB w (((w.alloc (.cells #[vb] 37)).alloc (.cells #[.slice none 0 0, .slice none 0 0, .int .i64 0] 82)).alloc (.cells #[.int .i64 0] 24)) := by
  refine ⟨below_alloc (below_alloc (below_alloc (Below.refl _ _) _) _) _, ?_, ?_⟩
  · have := blk_new (w.alloc (.cells #[vb] 37)) (.cells #[.slice none 0 0, .slice none 0 0, .int .i64 0] 82)
    rw [World.size_alloc] at this
    exact blk_alloc this _
  · have := blk_new ((w.alloc (.cells #[vb] 37)).alloc (.cells #[.slice none 0 0, .slice none 0 0, .int .i64 0] 82)) (.cells #[.int .i64 0] 24)
    rwa [World.size_alloc, World.size_alloc] at this
def hyDef (w0 : World) : List Deferred := [{ target := .fn (.func 63) #[], args := #[.pointer (some ⟨w0.heap.size + 1 + 1, 0, none⟩)] }]
theorem hy_giveup {w0 w1 : World} {why : Int} (tmps : Array Value) (h6 : tmps.getD 6 undef = .pointer (some ⟨w0.heap.size + 1, 0, none⟩)) (h7 : tmps.getD 7 undef = .pointer (some ⟨w0.heap.size + 1 + 1, 0, none⟩)) (hB : HyB w0 w1) :
    bodyPostD Try.prog Try.f53 (HyEnd w0 why [] 0) (Exit.panic (stopP why)) { tmps := tmps, defers := hyDef w0 } w1 := by
  unfold bodyPostD hyDef
  refine leaves_cons (f := 63) (args := #[.pointer (some ⟨w0.heap.size + 1 + 1, 0, none⟩)]) (by simp) (by simp [go_sem]) ?_
  refine (caught_yes ⟨w0.heap.size + 1 + 1, 0, none⟩ 0 why w1 (blk_cell hB.2.2 0) (blk_frozen hB.2.2 0) (blk_lt hB.2.2)).mono ?_
  rintro e u' w'' ⟨⟨v, rfl⟩, rfl, rfl⟩
  have g6 : ((w1.alloc (.cells #[.int .i64 why] 114)).setCell ⟨w0.heap.size + 1 + 1, 0, none⟩ (.int .i64 why)).heap[w0.heap.size + 1]? = some (.cells #[.slice none 0 0, .slice none 0 0, .int .i64 0] 82 (0, 0)) := blk_far (blk_alloc hB.2.1 _) (by simp) _
  have g7 : ((w1.alloc (.cells #[.int .i64 why] 114)).setCell ⟨w0.heap.size + 1 + 1, 0, none⟩ (.int .i64 why)).heap[w0.heap.size + 1 + 1]? = some (.cells #[.int .i64 why] 24 (0, 0)) := blk_set (blk_alloc hB.2.2 _) 0 _
  refine ⟨_, hy_results tmps _ _ _ _ _ _ _ h6 h7 g6 g7, _, _, _, _, rfl, World.ownsRow_nil _ _ _ _, ?_⟩
  exact (below_alloc hB.1 _).setCell (p := ⟨w0.heap.size + 1 + 1, 0, none⟩) (by simp; omega) _
theorem hy_done {w0 w1 : World} {lv : Value} {Ar : Option Addr} {m cr : Nat} {l : List Int} {a : Int} (tmps : Array Value) (h6 : tmps.getD 6 undef = .pointer (some ⟨w0.heap.size + 1, 0, none⟩)) (h7 : tmps.getD 7 undef = .pointer (some ⟨w0.heap.size + 1 + 1, 0, none⟩))
    (hb : Below w0.heap.size w0 w1) (g6 : w1.heap[w0.heap.size + 1]? = some (.cells #[lv, .slice Ar m cr, .int .i64 a] 82 (0, 0))) (g7 : w1.heap[w0.heap.size + 1 + 1]? = some (.cells #[.int .i64 0] 24 (0, 0)))
    (ho : w1.ownsRow w0.heap.size 3 1 lv l.length (nums .i64 l)) :
    bodyPostD Try.prog Try.f53 (HyEnd w0 0 l a) Exit.ret { tmps := tmps, defers := hyDef w0 } w1 := by
  unfold bodyPostD hyDef
  refine leaves_cons (f := 63) (args := #[.pointer (some ⟨w0.heap.size + 1 + 1, 0, none⟩)]) (by simp) (by simp [go_sem]) ?_
  refine (caught_no ⟨w0.heap.size + 1 + 1, 0, none⟩ w1).mono ?_
  rintro e u' w'' ⟨⟨v, rfl⟩, rfl, rfl⟩
  exact ⟨_, hy_results tmps _ _ _ _ _ _ _ h6 h7 g6 g7, _, _, _, _, rfl, ho, hb⟩
theorem own_form {w : World} {base n : Nat} {e : TypeId} {size : Nat} {v : Value} {xs : List Value} (h : w.ownsRow base e size v n xs) : ∃ A c, v = .slice A n c := by
  obtain ⟨_, ⟨rfl, rfl⟩ | ⟨g, cap, cur, rfl, _⟩⟩ := h
  · exact ⟨_, _, rfl⟩
  · exact ⟨_, _, rfl⟩
theorem hy_state (w : World) (vb : Value) : HyI w vb [] 0 0 ((((w.alloc (.cells #[vb] 37)).alloc (.cells #[.slice none 0 0, .slice none 0 0, .int .i64 0] 82)).alloc (.cells #[.int .i64 0] 24)).alloc (.cells #[.slice none 0 0, .slice none 0 0, .int .i64 0] 82)) := by
  have hB := (hy_start w vb).below (below_alloc (Below.refl _ _) (.cells #[.slice none 0 0, .slice none 0 0, .int .i64 0] 82))
  refine ⟨_, _, 0, [], hB, blk_alloc (blk_alloc (blk_alloc (blk_new _ _) _) _) _, ?_, World.ownsRow_nil _ _ _ _, World.ownsRow_nil _ _ _ _, Nat.le_refl _⟩
  have := blk_new (((w.alloc (.cells #[vb] 37)).alloc (.cells #[.slice none 0 0, .slice none 0 0, .int .i64 0] 82)).alloc (.cells #[.int .i64 0] 24)) (.cells #[.slice none 0 0, .slice none 0 0, .int .i64 0] 82)
  rwa [World.size_alloc, World.size_alloc, World.size_alloc] at this
set_option maxRecDepth 100000 in
set_option maxHeartbeats 4000000 in
theorem hy_all_arg (A : Option Addr) (c : Nat) (b : List Int) (W count : Int) (w : World) (h : W < 0 ∨ 32 < W ∨ count < 0) :
    Calls Try.prog 53 #[.slice A b.length c, .int .i64 W, .int .i64 count] w (HyEnd w 2 [] 0) := by
  have MN := Aside0.mk (fun why W => hy_must_no why W)
  have h : W < 0 ∨ (0 ≤ W ∧ 32 < W) ∨ (0 ≤ W ∧ W ≤ 32 ∧ count < 0) := by omega
  rcases h with h | ⟨h1, h⟩ | ⟨h1, h2, h⟩
  · have d1 := decide_eq_false (show ¬ 0 ≤ W by omega)
    clear h
    go_enter_defers Try.func53, Try.ntmps53
    go_wp2_with fail
    refine (MN.out _ _).mono ?_
    rintro e W1 ⟨rfl, rfl⟩
    exact hy_giveup _ rfl rfl (hy_start _ _)
  · have d1 := decide_eq_true h1
    have d2 := decide_eq_false (show ¬ W ≤ 32 by omega)
    clear h h1
    go_enter_defers Try.func53, Try.ntmps53
    go_wp2_with fail
    refine (MN.out _ _).mono ?_
    rintro e W1 ⟨rfl, rfl⟩
    exact hy_giveup _ rfl rfl (hy_start _ _)
  · have d1 := decide_eq_true h1
    have d2 := decide_eq_true h2
    have d3 := decide_eq_false (show ¬ 0 ≤ count by omega)
    clear h h1 h2
    go_enter_defers Try.func53, Try.ntmps53
    go_wp2_with fail
    refine (MN.out _ _).mono ?_
    rintro e W1 ⟨rfl, rfl⟩
    exact hy_giveup _ rfl rfl (hy_start _ _)
set_option maxRecDepth 100000 in
set_option maxHeartbeats 4000000 in
theorem hy_all_long (A : Option Addr) (c : Nat) (b : List Int) (W count : Int) (w : World) (h1 : 0 ≤ W) (h2 : W ≤ 32) (h3 : 0 ≤ count) (h : 1048576 < (b.length : Int) ∨ 65536 < count) :
    Calls Try.prog 53 #[.slice A b.length c, .int .i64 W, .int .i64 count] w (HyEnd w 3 [] 0) := by
  have MN := Aside0.mk (fun why W => hy_must_no why W)
  have MO := Aside0.mk (fun why W => hy_must_ok why W)
  have d1 := decide_eq_true h1
  have d2 := decide_eq_true h2
  have d3 := decide_eq_true h3
  have h : 1048576 < (b.length : Int) ∨ ((b.length : Int) ≤ 1048576 ∧ 65536 < count) := by omega
  rcases h with h | ⟨h4, h⟩
  · have d4 := decide_eq_false (show ¬ (b.length : Int) ≤ 1048576 by omega)
    clear h h1 h2 h3
    go_enter_defers Try.func53, Try.ntmps53
    go_wp2_with fail
    refine (MO.out _ _).mono ?_
    rintro e W1 ⟨⟨v, rfl⟩, rfl⟩
    go_wp2_with fail
    refine (MN.out _ _).mono ?_
    rintro e W1 ⟨rfl, rfl⟩
    exact hy_giveup _ rfl rfl (hy_start _ _)
  · have d4 := decide_eq_true h4
    have d5 := decide_eq_false (show ¬ count ≤ 65536 by omega)
    clear h h1 h2 h3 h4
    go_enter_defers Try.func53, Try.ntmps53
    go_wp2_with fail
    refine (MO.out _ _).mono ?_
    rintro e W1 ⟨⟨v, rfl⟩, rfl⟩
    go_wp2_with fail
    refine (MN.out _ _).mono ?_
    rintro e W1 ⟨rfl, rfl⟩
    exact hy_giveup _ rfl rfl (hy_start _ _)
set_option maxRecDepth 100000 in
set_option maxHeartbeats 8000000 in
theorem hy_all_main (k : Nat) (A : Option Addr) (c : Nat) (b : List Int) (W count : Int) (r : Int) (l' : List Int) (a' : Int) (w : World) (hC : Kd.C (Kd.int .u8) w A b.length b) (hc : b.length ≤ c) (h1 : 0 ≤ W) (h2 : W ≤ 32) (h3 : 0 ≤ count) (h4 : b.length ≤ 1048576) (h5 : count ≤ 65536)
    (h : hyAll k b W count [] 0 = some (r, l', a')) :
    Calls Try.prog 53 #[.slice A b.length c, .int .i64 W, .int .i64 count] w (HyEnd w r l' a') := by
  have MO := Aside0.mk (fun why W => hy_must_ok why W)
  have d1 := decide_eq_true h1
  have d2 := decide_eq_true h2
  have d3 := decide_eq_true h3
  have d4 := decide_eq_true (show (b.length : Int) ≤ 1048576 by omega)
  have d5 := decide_eq_true h5
  have HC := Aside0.mk hC
  have HA := Aside0.mk h
  have hmf : ∀ (fn : Fn) (first cap : Array Value) (w : World), (Instr.makeFunc fn first cap).run Try.prog w = .ok (.func fn first cap) w := fun _ _ _ _ => rfl
  clear hC h
  go_enter_defers Try.func53, Try.ntmps53
  go_wp2_with fail
  refine (MO.out _ _).mono ?_
  rintro e W1 ⟨⟨v, rfl⟩, hW1⟩
  have HS := Aside0.mk (hy_state w (.slice A b.length c))
  rw [← hW1] at HS
  have q0 : W1.cell? ⟨w.heap.size, 0, none⟩ = some (.slice A b.length c) := by rw [hW1]; exact blk_cell (blk_alloc (blk_alloc (blk_new _ _) _) _) 0
  have hsz : W1.heap.size = w.heap.size + 3 := by rw [hW1, World.size_alloc, World.size_alloc, World.size_alloc]
  clear hW1
  have hsz := Aside0.mk hsz
  go_wp2_with fail
  refine (MO.out _ _).mono ?_
  rintro e W2 ⟨⟨v2, rfl⟩, rfl⟩
  go_wp2_with fail
  clear q0 d1 d2 d3 d4 d5 hsz
  go_loopg [10] k (fun kq v10 w' => ∃ (l1 : List Int) (a1 : Int) (M : Nat), Aside0 (hyAll kq b W count l1 a1 = some (r, l', a')) ∧ Aside0 (kq ≤ k) ∧ Aside0 (HyI w (.slice A b.length c) l1 a1 M w') ∧ Aside0 (M ≤ l1.length) ∧ (l1.length : Int) ≤ count ∧ 0 ≤ a1 ∧ a1 ≤ b.length)
  case atStart => exact ⟨[], 0, 0, HA, ⟨Nat.le_refl _⟩, HS, ⟨Nat.le_refl _⟩, h3, by omega, by omega⟩
  case round =>
    clear HA HS
    obtain ⟨l1, a1, M, HA, HK, HI, HM, hlc, ha0, ha1⟩ := hrel
    cases gk with
    | zero => exact absurd HA.out (by simp [hyAll])
    | succ k1 =>
      have hA := HA.out
      rw [hyAll] at hA
      clear HA
      obtain ⟨lv, rv, m, rs, hB, g2, g3, g4, g5, g6⟩ := HI.out
      obtain ⟨Al, cl, rfl⟩ := own_form g4
      have q0 : wr.cell? ⟨w.heap.size + 3, 0, none⟩ = some (.slice Al l1.length cl) := blk_cell g3 0
      have q3 : wr.cell? ⟨w.heap.size, 0, none⟩ = some (.slice A b.length c) := blk_cell g2 0
      by_cases hlt : (l1.length : Int) < count
      · have hltb := decide_eq_true hlt
        rw [if_pos hlt] at hA
        obtain ⟨⟨h, nx, er⟩, hx, hA⟩ := Option.bind_eq_some_iff.1 hA
        have HH := Aside0.mk (hy_head k1 w A c b a1 l1 M h nx er wr HC.out hc HI.out hx)
        have HA := Aside0.mk hA
        clear hx hA hB g2 g3 g4 g5 g6 HI
        go_wp2_with fail
        refine HH.out.mono ?_
        rintro e W3 (⟨rfl, hh0, hh1, rfl, hI⟩ | ⟨rfl, hh, rfl, hB⟩ | ⟨hne, rfl, hB⟩)
        · have HI := Aside0.mk hI
          have hA := HA.out
          rw [if_pos rfl, if_pos ⟨hh0, hh1⟩] at hA
          clear hI HH q0 q3 HA
          by_cases hnx : 0 ≤ nx ∧ nx ≤ (b.length : Int)
          · rw [if_pos hnx] at hA
            obtain ⟨hn0, hn1⟩ := hnx
            obtain ⟨⟨pr, pl, pa⟩, hp, hA⟩ := Option.bind_eq_some_iff.1 hA
            have HA := Aside0.mk hA
            clear hA
            have HM2 := Aside0.mk (show M ≤ 200000000 by have := HM.out; omega)
            by_cases he : h % 2 = 0
            · have heb : (h % 2 == 0) = true := by simp [he]
              rw [if_pos he] at hp
              have HP := Aside0.mk (hy_repeated k1 w A c b W (h / 2) (count - l1.length) nx l1 pr pl pa W3 HC.out hc M HI.out HM2.out h1 h2 (by omega) (by omega) (by omega) (by omega) hn0 hn1 h4 (by omega) hp)
              obtain ⟨lv, rv, m, rs, hB, g2, g3, g4, g5, g6⟩ := HI.out
              obtain ⟨Al, cl, rfl⟩ := own_form g4
              have q0 : W3.cell? ⟨w.heap.size + 3, 0, none⟩ = some (.slice Al l1.length cl) := blk_cell g3 0
              have q3 : W3.cell? ⟨w.heap.size, 0, none⟩ = some (.slice A b.length c) := blk_cell g2 0
              clear he hp HI hB g2 g3 g4 g5 g6
              go_wp2_with fail
              refine HP.out.mono ?_
              rintro e W4 (⟨rfl, ⟨v4, rfl⟩, hI⟩ | ⟨hne, rfl, hB⟩)
              · have hA := HA.out
                rw [if_pos rfl] at hA
                by_cases hq : l1.length < pl.length ∧ (pl.length : Int) ≤ count ∧ 0 ≤ pa ∧ pa ≤ (b.length : Int)
                · rw [if_pos hq] at hA
                  obtain ⟨hq1, hq2, hq3, hq4⟩ := hq
                  have HA9 := Aside0.mk hA
                  have HI := Aside0.mk hI
                  clear hA hI q0 q3 HP
                  go_wp2
                  go_roundg k1
                  case measure => have := HK.out; omega
                  case rel => exact ⟨pl, pa, M + 1, HA9, ⟨by have := HK.out; omega⟩, HI, ⟨by have := HM.out; omega⟩, hq2, hq3, hq4⟩
                · rw [if_neg hq] at hA
                  exact absurd hA (by simp)
              · have hA := HA.out
                rw [if_neg hne] at hA
                obtain ⟨rfl, rfl, rfl⟩ : pr = r ∧ [] = l' ∧ 0 = a' := by simpa using hA
                exact hy_giveup _ rfl rfl hB
            · have heb : (h % 2 == 0) = false := by simp [he]
              rw [if_neg he] at hp
              have HP := Aside0.mk (hy_packed k1 w A c b W (h / 2) (count - l1.length) nx l1 pr pl pa W3 HC.out hc M HI.out HM2.out h1 h2 (by omega) (by omega) (by omega) (by omega) hn0 hn1 h4 (by omega) hp)
              obtain ⟨lv, rv, m, rs, hB, g2, g3, g4, g5, g6⟩ := HI.out
              obtain ⟨Al, cl, rfl⟩ := own_form g4
              have q0 : W3.cell? ⟨w.heap.size + 3, 0, none⟩ = some (.slice Al l1.length cl) := blk_cell g3 0
              have q3 : W3.cell? ⟨w.heap.size, 0, none⟩ = some (.slice A b.length c) := blk_cell g2 0
              clear he hp HI hB g2 g3 g4 g5 g6
              go_wp2_with fail
              refine HP.out.mono ?_
              rintro e W4 (⟨rfl, ⟨v4, rfl⟩, hI⟩ | ⟨hne, rfl, hB⟩)
              · have hA := HA.out
                rw [if_pos rfl] at hA
                by_cases hq : l1.length < pl.length ∧ (pl.length : Int) ≤ count ∧ 0 ≤ pa ∧ pa ≤ (b.length : Int)
                · rw [if_pos hq] at hA
                  obtain ⟨hq1, hq2, hq3, hq4⟩ := hq
                  have HA9 := Aside0.mk hA
                  have HI := Aside0.mk hI
                  clear hA hI q0 q3 HP
                  go_wp2
                  go_roundg k1
                  case measure => have := HK.out; omega
                  case rel => exact ⟨pl, pa, M + 1, HA9, ⟨by have := HK.out; omega⟩, HI, ⟨by have := HM.out; omega⟩, hq2, hq3, hq4⟩
                · rw [if_neg hq] at hA
                  exact absurd hA (by simp)
              · have hA := HA.out
                rw [if_neg hne] at hA
                obtain ⟨rfl, rfl, rfl⟩ : pr = r ∧ [] = l' ∧ 0 = a' := by simpa using hA
                exact hy_giveup _ rfl rfl hB
          · rw [if_neg hnx] at hA
            exact absurd hA (by simp)
        · have hA := HA.out
          rw [if_pos rfl, if_neg hh] at hA
          obtain ⟨rfl, rfl, rfl⟩ : 8 = r ∧ [] = l' ∧ 0 = a' := by simpa using hA
          exact hy_giveup _ rfl rfl hB
        · have hA := HA.out
          rw [if_neg hne] at hA
          obtain ⟨rfl, rfl, rfl⟩ : er = r ∧ [] = l' ∧ 0 = a' := by simpa using hA
          exact hy_giveup _ rfl rfl hB
      · have hltb := decide_eq_false hlt
        rw [if_neg hlt] at hA
        obtain ⟨rfl, rfl, rfl⟩ : 0 = r ∧ l1 = l' ∧ a1 = a' := by simpa using hA
        obtain ⟨Ar, cr, rfl⟩ := own_form g5
        have HB := Aside0.mk hB
        have G3 := Aside0.mk g3
        have G4 := Aside0.mk g4
        have G6 := Aside0.mk (show (wr.setRow (w.heap.size + 1) #[.slice Al l1.length cl, (.slice Ar m cr), .int .i64 a1]).heap[w.heap.size + 1]? = some (.cells #[.slice Al l1.length cl, (.slice Ar m cr), .int .i64 a1] 82 (0, 0)) from setRow_heap _ _ _ _ _ _ hB.2.1)
        have G7 := Aside0.mk (show (wr.setRow (w.heap.size + 1) #[.slice Al l1.length cl, (.slice Ar m cr), .int .i64 a1]).heap[w.heap.size + 1 + 1]? = some (.cells #[.int .i64 0] 24 (0, 0)) by rw [setRow_other _ _ _ _ (by omega)]; exact hB.2.2)
        have hone : (#[.slice Al l1.length cl, (.slice Ar m cr), .int .i64 a1] : Array Value).all (·.oneCell') = true := by simp [Value.oneCell']
        have q7 : (wr.setRow (w.heap.size + 1) #[.slice Al l1.length cl, (.slice Ar m cr), .int .i64 a1]).cell? ⟨w.heap.size + 1 + 1, 0, none⟩ = some (.int .i64 0) := blk_cell G7.out 0
        have f7 : (wr.setRow (w.heap.size + 1) #[.slice Al l1.length cl, (.slice Ar m cr), .int .i64 a1]).frozen? ⟨w.heap.size + 1 + 1, 0, none⟩ = false := blk_frozen G7.out 0
        have HON := Aside0.mk hone
        clear hA hB g2 g3 g4 g5 g6 q3 hone HI
        go_wp2_with (first | (refine wpList_load_row rfl _ _ rfl (w.heap.size + 3) rfl 82 #[.slice Al l1.length cl, (.slice Ar m cr), .int .i64 a1] (0, 0) _ G3.out Try.underlying82 rfl (by kernel_rfl) ?_) | (refine wpList_store_row rfl 82 (.tmp 6) (.tmp 61) rfl (w.heap.size + 1) #[.slice Al l1.length cl, (.slice Ar m cr), .int .i64 a1] rfl rfl 82 #[.slice none 0 0, .slice none 0 0, .int .i64 0] HB.out.2.1 (by kernel_rfl) rfl HON.out ?_))
        have hg : wr.grownBy (wr.setRow (w.heap.size + 1) #[.slice Al l1.length cl, (.slice Ar m cr), .int .i64 a1]) (some (w.heap.size + 1)) := ⟨rfl, rfl, rfl, by simp, fun k hk hne => setRow_other _ _ _ _ (fun e => hne (by rw [e]))⟩
        have ho1 := own_other G4.out hg (.inr (fun e => own_ne G4.out HB.out.2.1 (by decide) e.symm))
        exact hy_done _ rfl rfl ((below_setRow HB.out.1 (by omega) _).setCell (p := ⟨w.heap.size + 1 + 1, 0, none⟩) (by simp; omega) _) (blk_far G6.out (by simp) _) (blk_set G7.out 0 _) (own_setCell ho1 (own_ne ho1 G7.out (by decide)) _)
theorem hy_all (k : Nat) (A : Option Addr) (c : Nat) (b : List Int) (W count : Int) (r : Int) (l' : List Int) (a' : Int) (w : World) (hC : Kd.C (Kd.int .u8) w A b.length b) (hc : b.length ≤ c) (h : hyF k b W count = some (r, l', a')) :
    Calls Try.prog 53 #[.slice A b.length c, .int .i64 W, .int .i64 count] w (HyEnd w r l' a') := by
  unfold hyF at h
  by_cases c1 : W < 0
  · rw [if_pos c1] at h
    obtain ⟨rfl, rfl, rfl⟩ : 2 = r ∧ [] = l' ∧ 0 = a' := by simpa using h
    exact hy_all_arg A c b W count w (.inl c1)
  rw [if_neg c1] at h
  by_cases c2 : 32 < W
  · rw [if_pos c2] at h
    obtain ⟨rfl, rfl, rfl⟩ : 2 = r ∧ [] = l' ∧ 0 = a' := by simpa using h
    exact hy_all_arg A c b W count w (.inr (.inl c2))
  rw [if_neg c2] at h
  by_cases c3 : count < 0
  · rw [if_pos c3] at h
    obtain ⟨rfl, rfl, rfl⟩ : 2 = r ∧ [] = l' ∧ 0 = a' := by simpa using h
    exact hy_all_arg A c b W count w (.inr (.inr c3))
  rw [if_neg c3] at h
  by_cases c4 : 1048576 < (b.length : Int)
  · rw [if_pos c4] at h
    obtain ⟨rfl, rfl, rfl⟩ : 3 = r ∧ [] = l' ∧ 0 = a' := by simpa using h
    exact hy_all_long A c b W count w (by omega) (by omega) (by omega) (.inl c4)
  rw [if_neg c4] at h
  by_cases c5 : 65536 < count
  · rw [if_pos c5] at h
    obtain ⟨rfl, rfl, rfl⟩ : 3 = r ∧ [] = l' ∧ 0 = a' := by simpa using h
    exact hy_all_long A c b W count w (by omega) (by omega) (by omega) (.inr c5)
  rw [if_neg c5] at h
  exact hy_all_main k A c b W count r l' a' w hC hc (by omega) (by omega) (by omega) (by omega) (by omega) h
end Go.Proofs.Ytpibhiacmceekaa.X
end

section
namespace Go.Proofs.Ytpibhiacmceekaa.X
open Go.RowKit Go.Proofs.YtpibhiacmceekaaW.PrintWords Go.Proofs.YtpibhiacmceekaaW.PrintLast Go.Proofs.YtpibhiacmceekaaW.PrintMore
set_option linter.unusedVariables false
set_option linter.unusedSimpArgs false
theorem own_lower {w : World} {base base' n : Nat} {e : TypeId} {size : Nat} {v : Value} {xs : List Value} (h : w.ownsRow base e size v n xs) (hb : base' ≤ base) : w.ownsRow base' e size v n xs := by
  obtain ⟨h1, h2⟩ := h
  refine ⟨h1, ?_⟩
  rcases h2 with h2 | ⟨g, cap, cur, rfl, hg, r⟩
  · exact .inl h2
  · exact .inr ⟨g, cap, cur, rfl, Nat.le_trans hb hg, r⟩
theorem own_R {w : World} {base : Nat} {v : Value} {l : List Int} (h : w.ownsRow base 3 1 v l.length (nums .i64 l)) : Kd.R (Kd.int .i64) 3 w base (fun _ => True) v l :=
  Kd.R_of_own (enc := Value.int .i64) (h1 := fun _ => rfl) h (fun _ _ => trivial)
set_option maxRecDepth 100000 in
set_option maxHeartbeats 2000000 in
theorem hy_part (k : Nat) (A : Option Addr) (c : Nat) (b : List Int) (W count : Int) (r : Int) (l' : List Int) (a' : Int) (w : World) (hC : Kd.C (Kd.int .u8) w A b.length b) (hc : b.length ≤ c) (h : hyF k b W count = some (r, l', a')) :
    Calls Try.prog 32 #[.slice A b.length c, .int .i64 W, .int .i64 count] w fun e w' => ∃ v0_ : Value, e = .returned (.tuple #[v0_, .int .i64 a', .int .i64 r]) ∧ Kd.R (Kd.int .i64) 3 w' w.heap.size (fun _ => True) v0_ l' ∧ Below w.heap.size w w' := by
  have HA := Aside0.mk (hy_all k A c b W count r l' a' w hC hc h)
  clear hC h
  go_enter Try.func32, Try.ntmps32
  go_wp2_with fail
  refine HA.out.mono ?_
  rintro e W1 ⟨lv, Ar, m, cr, rfl, ho, hb⟩
  obtain ⟨Al, cl, rfl⟩ := own_form ho
  have HO := Aside0.mk ho
  have HB := Aside0.mk hb
  clear ho hb HA
  go_wp2
  go_quiet (fail)
  go_wp2
  go_ret3
  exact ⟨_, rfl, by (with_reducible repeat (first | apply Kd.R_alloc | apply Kd.R_drewN | apply Kd.R_drew)); exact own_R HO.out, by repeat (first | (with_reducible first | exact HB.out | apply below_alloc | apply pw_below_drewN | apply below_drew1) | exact HB.out)⟩
set_option maxRecDepth 100000 in
set_option maxHeartbeats 2000000 in
theorem hy_whole (k : Nat) (A : Option Addr) (c : Nat) (b : List Int) (W count : Int) (r : Int) (l' : List Int) (a' : Int) (w : World) (hC : Kd.C (Kd.int .u8) w A b.length b) (hc : b.length ≤ c) (h : hyF k b W count = some (r, l', a')) :
    Calls Try.prog 52 #[.slice A b.length c, .int .i64 W, .int .i64 count] w (HyEnd w (if r = 0 then (if a' < (b.length : Int) then 7 else 0) else r) (if r = 0 then (if a' < (b.length : Int) then [] else l') else []) (if r = 0 then (if a' < (b.length : Int) then 0 else a') else 0)) := by
  have HA : ∀ W', Below w.heap.size w W' → Calls Try.prog 53 #[.slice A b.length c, .int .i64 W, .int .i64 count] W' (HyEnd W' r l' a') := fun W' hB => hy_all k A c b W count r l' a' W' (Kd.C_below hC hB) hc h
  have HZ := Aside0.mk (blk_new w (.cells #[.slice none 0 0, .slice none 0 0, .int .i64 0] 82))
  have HA := Aside0.mk HA
  clear hC h
  by_cases c1 : r = 0
  · subst c1
    rw [if_pos rfl, if_pos rfl, if_pos rfl]
    by_cases c2 : a' < (b.length : Int)
    · have d2 := decide_eq_true c2
      rw [if_pos c2, if_pos c2, if_pos c2]
      clear c2
      go_enter Try.func52, Try.ntmps52
      go_wp2_with fail
      refine (HA.out _ (below_alloc (Below.refl _ _) _)).mono ?_
      rintro e W1 ⟨lv, Ar, m, cr, rfl, ho, hb⟩
      obtain ⟨Al, cl, rfl⟩ := own_form ho
      have HG := Aside0.mk (show (W1.alloc (.cells #[.slice Al l'.length cl, .slice Ar m cr, .int .i64 a'] 82)).heap[w.heap.size]? = some (.cells #[.slice none 0 0, .slice none 0 0, .int .i64 0] 82 (0, 0)) from blk_alloc (blk_below HZ.out hb) _)
      have HR := Aside0.mk (show (W1.alloc (.cells #[.slice Al l'.length cl, .slice Ar m cr, .int .i64 a'] 82)).heap[W1.heap.size]? = some (.cells #[.slice Al l'.length cl, .slice Ar m cr, .int .i64 a'] 82 (0, 0)) from blk_new _ _)
      have HO := Aside0.mk (own_lower ho (show w.heap.size ≤ (w.alloc (.cells #[.slice none 0 0, .slice none 0 0, .int .i64 0] 82)).heap.size by simp))
      have HB := Aside0.mk ((below_alloc (Below.refl w.heap.size w) (.cells #[.slice none 0 0, .slice none 0 0, .int .i64 0] 82)).trans (hb.mono (by simp)))
      clear ho hb HA
      go_wp2_with (first | (refine wpList_store_row rfl 82 (.tmp 6) (.tmp 28) rfl w.heap.size #[.slice none 0 0, .slice none 0 0, .int .i64 0] rfl rfl 82 #[.slice none 0 0, .slice none 0 0, .int .i64 0] HG.out (by kernel_rfl) rfl (by simp [Value.oneCell']) ?_))
      refine bodyPost_ret (results_ct rfl _ _ w.heap.size 82 #[.slice none 0 0, .slice none 0 0, .int .i64 0] (0, 0) _ rfl (setRow_heap _ _ _ _ _ _ HG.out) Try.underlying82 rfl (by kernel_rfl)) rfl ?_
      exact ⟨_, _, _, _, rfl, World.ownsRow_nil _ _ _ _, below_setRow (below_alloc HB.out _) (Nat.le_refl _) _⟩
    · have d2 := decide_eq_false c2
      rw [if_neg c2, if_neg c2, if_neg c2]
      clear c2
      go_enter Try.func52, Try.ntmps52
      go_wp2_with fail
      refine (HA.out _ (below_alloc (Below.refl _ _) _)).mono ?_
      rintro e W1 ⟨lv, Ar, m, cr, rfl, ho, hb⟩
      obtain ⟨Al, cl, rfl⟩ := own_form ho
      have HG := Aside0.mk (show (W1.alloc (.cells #[.slice Al l'.length cl, .slice Ar m cr, .int .i64 a'] 82)).heap[w.heap.size]? = some (.cells #[.slice none 0 0, .slice none 0 0, .int .i64 0] 82 (0, 0)) from blk_alloc (blk_below HZ.out hb) _)
      have HR := Aside0.mk (show (W1.alloc (.cells #[.slice Al l'.length cl, .slice Ar m cr, .int .i64 a'] 82)).heap[W1.heap.size]? = some (.cells #[.slice Al l'.length cl, .slice Ar m cr, .int .i64 a'] 82 (0, 0)) from blk_new _ _)
      have HO := Aside0.mk (own_lower ho (show w.heap.size ≤ (w.alloc (.cells #[.slice none 0 0, .slice none 0 0, .int .i64 0] 82)).heap.size by simp))
      have HB := Aside0.mk ((below_alloc (Below.refl w.heap.size w) (.cells #[.slice none 0 0, .slice none 0 0, .int .i64 0] 82)).trans (hb.mono (by simp)))
      clear ho hb HA
      go_wp2_with (first | (refine wpList_load_row rfl _ _ rfl W1.heap.size rfl 82 #[.slice Al l'.length cl, .slice Ar m cr, .int .i64 a'] (0, 0) _ HR.out Try.underlying82 rfl (by kernel_rfl) ?_) | (refine wpList_store_row rfl 82 (.tmp 6) (.tmp 29) rfl w.heap.size #[.slice Al l'.length cl, .slice Ar m cr, .int .i64 a'] rfl rfl 82 #[.slice none 0 0, .slice none 0 0, .int .i64 0] HG.out (by kernel_rfl) rfl (by simp [Value.oneCell']) ?_))
      have hg : (W1.alloc (.cells #[.slice Al l'.length cl, .slice Ar m cr, .int .i64 a'] 82)).grownBy ((W1.alloc (.cells #[.slice Al l'.length cl, .slice Ar m cr, .int .i64 a'] 82)).setRow w.heap.size #[.slice Al l'.length cl, .slice Ar m cr, .int .i64 a']) (some w.heap.size) := ⟨rfl, rfl, rfl, by simp, fun k hk hne => setRow_other _ _ _ _ (fun e => hne (by rw [e]))⟩
      refine bodyPost_ret (results_ct rfl _ _ w.heap.size 82 #[.slice Al l'.length cl, .slice Ar m cr, .int .i64 a'] (0, 0) _ rfl (setRow_heap _ _ _ _ _ _ HG.out) Try.underlying82 rfl (by kernel_rfl)) rfl ?_
      exact ⟨_, _, _, _, rfl, own_other (HO.out.alloc _) hg (.inr (fun e => own_ne (HO.out.alloc _) HG.out (by decide) e.symm)), below_setRow (below_alloc HB.out _) (Nat.le_refl _) _⟩
  · have d1 : (r != 0) = true := by simp [c1]
    rw [if_neg c1, if_neg c1, if_neg c1]
    clear c1
    · go_enter Try.func52, Try.ntmps52
      go_wp2_with fail
      refine (HA.out _ (below_alloc (Below.refl _ _) _)).mono ?_
      rintro e W1 ⟨lv, Ar, m, cr, rfl, ho, hb⟩
      obtain ⟨Al, cl, rfl⟩ := own_form ho
      have HG := Aside0.mk (show (W1.alloc (.cells #[.slice Al l'.length cl, .slice Ar m cr, .int .i64 a'] 82)).heap[w.heap.size]? = some (.cells #[.slice none 0 0, .slice none 0 0, .int .i64 0] 82 (0, 0)) from blk_alloc (blk_below HZ.out hb) _)
      have HR := Aside0.mk (show (W1.alloc (.cells #[.slice Al l'.length cl, .slice Ar m cr, .int .i64 a'] 82)).heap[W1.heap.size]? = some (.cells #[.slice Al l'.length cl, .slice Ar m cr, .int .i64 a'] 82 (0, 0)) from blk_new _ _)
      have HO := Aside0.mk (own_lower ho (show w.heap.size ≤ (w.alloc (.cells #[.slice none 0 0, .slice none 0 0, .int .i64 0] 82)).heap.size by simp))
      have HB := Aside0.mk ((below_alloc (Below.refl w.heap.size w) (.cells #[.slice none 0 0, .slice none 0 0, .int .i64 0] 82)).trans (hb.mono (by simp)))
      clear ho hb HA
      go_wp2_with (first | (refine wpList_store_row rfl 82 (.tmp 6) (.tmp 20) rfl w.heap.size #[.slice none 0 0, .slice none 0 0, .int .i64 0] rfl rfl 82 #[.slice none 0 0, .slice none 0 0, .int .i64 0] HG.out (by kernel_rfl) rfl (by simp [Value.oneCell']) ?_))
      refine bodyPost_ret (results_ct rfl _ _ w.heap.size 82 #[.slice none 0 0, .slice none 0 0, .int .i64 0] (0, 0) _ rfl (setRow_heap _ _ _ _ _ _ HG.out) Try.underlying82 rfl (by kernel_rfl)) rfl ?_
      exact ⟨_, _, _, _, rfl, World.ownsRow_nil _ _ _ _, below_setRow (below_alloc HB.out _) (Nat.le_refl _) _⟩
set_option maxRecDepth 100000 in
set_option maxHeartbeats 2000000 in
theorem hy_read (k : Nat) (A : Option Addr) (c : Nat) (b : List Int) (W count : Int) (r : Int) (l' : List Int) (a' : Int) (w : World) (hC : Kd.C (Kd.int .u8) w A b.length b) (hc : b.length ≤ c) (h : hyF k b W count = some (r, l', a')) :
    Calls Try.prog 31 #[.slice A b.length c, .int .i64 W, .int .i64 count] w fun e w' => ∃ v0_ : Value, e = .returned (.tuple #[v0_, .int .i64 (if r = 0 then (if a' < (b.length : Int) then 7 else 0) else r)]) ∧ Kd.R (Kd.int .i64) 3 w' w.heap.size (fun _ => True) v0_ (if r = 0 then (if a' < (b.length : Int) then [] else l') else []) ∧ Below w.heap.size w w' := by
  have HA := hy_whole k A c b W count r l' a' w hC hc h
  obtain ⟨r2, hr2⟩ : ∃ x, x = (if r = 0 then (if a' < (b.length : Int) then 7 else 0) else r) := ⟨_, rfl⟩
  obtain ⟨l2, hl2⟩ : ∃ x, x = (if r = 0 then (if a' < (b.length : Int) then [] else l') else []) := ⟨_, rfl⟩
  obtain ⟨a2, ha2⟩ : ∃ x, x = (if r = 0 then (if a' < (b.length : Int) then 0 else a') else 0) := ⟨_, rfl⟩
  rw [← hr2, ← hl2, ← ha2] at HA
  rw [← hr2, ← hl2]
  have HA := Aside0.mk HA
  clear hC h hr2 hl2 ha2
  go_enter Try.func31, Try.ntmps31
  go_wp2_with fail
  refine HA.out.mono ?_
  rintro e W1 ⟨lv, Ar, m, cr, rfl, ho, hb⟩
  obtain ⟨Al, cl, rfl⟩ := own_form ho
  have HO := Aside0.mk ho
  have HB := Aside0.mk hb
  clear ho hb HA
  go_wp2
  go_ret2
  exact ⟨_, rfl, by (with_reducible repeat (first | apply Kd.R_alloc | apply Kd.R_drewN | apply Kd.R_drew)); exact own_R HO.out, by repeat (first | (with_reducible first | exact HB.out | apply below_alloc | apply pw_below_drewN | apply below_drew1) | exact HB.out)⟩
theorem hyAll_mono : ∀ k b W count l a, LeO (hyAll k b W count l a) (hyAll (k + 1) b W count l a)
  | 0, _, _, _, _, _ => LeO.none _
  | k + 1, b, W, count, l, a => by
    rw [hyAll, hyAll]
    refine LeO.ite (LeO.bind (bits_ReadVarint.mono _ _ _) (fun v => LeO.ite (LeO.ite (LeO.ite (LeO.bind (LeO.ite ?_ ?_) (fun p => LeO.ite (LeO.ite (hyAll_mono k _ _ _ _ _) (LeO.refl _)) (LeO.refl _))) (LeO.refl _)) (LeO.refl _)) (LeO.refl _))) (LeO.refl _)
    · unfold hyRep
      exact LeO.ite (LeO.ite (LeO.bind (bits_ReadLittle.mono _ _ _ _) (fun _ => LeO.bind (bits_Width.mono _ _) (fun _ => LeO.refl _))) (LeO.refl _)) (LeO.refl _)
    · unfold hyPack
      exact LeO.ite (LeO.ite (LeO.bind (bits_Unpack.mono _ _ _ _) (fun _ => LeO.refl _)) (LeO.refl _)) (LeO.refl _)
theorem hyF_mono (k : Nat) (b : List Int) (W count : Int) : LeO (hyF k b W count) (hyF (k + 1) b W count) := by
  unfold hyF
  exact LeO.ite (LeO.refl _) (LeO.ite (LeO.refl _) (LeO.ite (LeO.refl _) (LeO.ite (LeO.refl _) (LeO.ite (LeO.refl _) (hyAll_mono _ _ _ _ _ _)))))
end Go.Proofs.Ytpibhiacmceekaa.X
end

section
namespace Go.Proofs.Ytpibhiacmceekaa.X
open Go.RowKit Go.Proofs.YtpibhiacmceekaaW.PrintWords Go.Proofs.YtpibhiacmceekaaW.PrintLast Go.Proofs.YtpibhiacmceekaaW.PrintMore
attribute [local go_sem] max2_int min2_int max_two min_two max_three min_three max_four min_four
set_option linter.unusedVariables false
set_option linter.unusedSimpArgs false
def hybrid_Read.f (k : Nat) (l0 : List Int) (a1 a2 : Int) : Option (List Int × Int) := (hyF k l0 a1 a2).bind fun p => some (if p.1 = 0 then (if p.2.2 < (l0.length : Int) then [] else p.2.1) else [], if p.1 = 0 then (if p.2.2 < (l0.length : Int) then 7 else 0) else p.1)
theorem hybrid_Read.mono : ∀ l0 a1 a2 k, LeO (hybrid_Read.f k l0 a1 a2) (hybrid_Read.f (k + 1) l0 a1 a2) := by
 intro l0 a1 a2 k
 unfold hybrid_Read.f
 exact LeO.bind (hyF_mono _ _ _ _) (fun _ => LeO.refl _)
theorem hybrid_Read.calls (k : Nat) (A0 : Option Addr) (c0 : Nat) (l0 : List Int) (a1 : Int) (a2 : Int) (r1 : List Int) (r2 : Int) (w : World) (hr0 : Kd.C (Kd.int .u8) w A0 l0.length l0) (hc0 : l0.length ≤ c0) (h : hybrid_Read.f k l0 a1 a2 = some (r1, r2)) :
  Calls Try.prog 31 #[.slice A0 l0.length c0, .int .i64 a1, .int .i64 a2] w fun e w' => ∃ v0_ : Value, e = .returned (.tuple #[v0_, .int .i64 r2]) ∧ Kd.R (Kd.int .i64) 3 w' w.heap.size (fun _ => True) v0_ r1 ∧ Below w.heap.size w w' := by
 unfold hybrid_Read.f at h
 obtain ⟨⟨r, l, a⟩, hp, h⟩ := Option.bind_eq_some_iff.1 h
 obtain ⟨rfl, rfl⟩ : (if r = 0 then (if a < (l0.length : Int) then [] else l) else []) = r1 ∧ (if r = 0 then (if a < (l0.length : Int) then 7 else 0) else r) = r2 := by simpa using h
 exact hy_read k A0 c0 l0 a1 a2 r l a w hr0 hc0 hp
end Go.Proofs.Ytpibhiacmceekaa.X
end

section
namespace Go.Proofs.Ytpibhiacmceekaa.X
open Go.RowKit Go.Proofs.YtpibhiacmceekaaW.PrintWords Go.Proofs.YtpibhiacmceekaaW.PrintLast Go.Proofs.YtpibhiacmceekaaW.PrintMore
attribute [local go_sem] max2_int min2_int max_two min_two max_three min_three max_four min_four
set_option linter.unusedVariables false
set_option linter.unusedSimpArgs false
def levels_Read.f (k : Nat) (l0 : List Int) (a1 a2 : Int) : Option (List Int × Int) :=
 if a1 < 0 then some ([], 2) else if 255 < a1 then some ([], 2) else if a2 < 0 then some ([], 2) else if 65536 < a2 then some ([], 3) else if 1048576 < (l0.length : Int) then some ([], 3) else
  if a1 = 0 then (if 0 < (l0.length : Int) then some ([], 7) else some (List.replicate a2.toNat 0, 0)) else
   (hybrid_Read.f k l0 ((Nx.wd a1.toNat : Nat) : Int) a2).bind fun p => if p.2 = 0 then (if p.1.any (fun x => decide (a1 < x)) = true then some ([], 4) else some (p.1, 0)) else some ([], p.2)
theorem levels_Read.mono : ∀ l0 a1 a2 k, LeO (levels_Read.f k l0 a1 a2) (levels_Read.f (k + 1) l0 a1 a2) := by
 intro l0 a1 a2 k
 unfold levels_Read.f
 exact LeO.ite (LeO.refl _) (LeO.ite (LeO.refl _) (LeO.ite (LeO.refl _) (LeO.ite (LeO.refl _) (LeO.ite (LeO.refl _) (LeO.ite (LeO.refl _) (LeO.bind (hybrid_Read.mono _ _ _ _) (fun _ => LeO.refl _)))))))
theorem lr_right (m : Int) (b : Bool) (hb : (decide (0 ≤ m) && decide (m ≤ 255)) = b) (w : World) : Calls Try.prog 46 #[.int .i64 m] w fun e w' => e = .returned (.bool b) ∧ w' = w := by
 have h := lw_right m w
 rw [show lwOk m = b from hb] at h
 exact h
theorem lr_not {a1 : Int} (h : a1 < 0 ∨ 255 < a1) : (decide (0 ≤ a1) && decide (a1 ≤ 255)) = false := by
 rcases h with h | h
 ·rw [decide_eq_false (show ¬ 0 ≤ a1 by omega)]; rfl
 ·rw [decide_eq_false (show ¬ a1 ≤ 255 by omega), Bool.and_false]
def LrEnd (w : World) (r1 : List Int) (r2 : Int) (e : Ending) (w' : World) : Prop := ∃ v0_ : Value, e = .returned (.tuple #[v0_, .int .i64 r2]) ∧ Kd.R (Kd.int .i64) 3 w' w.heap.size (fun _ => True) v0_ r1 ∧ Below w.heap.size w w'
theorem lr_end_nil {w w' : World} {r2 : Int} (h : Below w.heap.size w w') : LrEnd w [] r2 (.returned (.tuple #[.slice none 0 0, .int .i64 r2])) w' := ⟨_, rfl, Kd.R_nil _ _ _ _ _, h⟩
theorem lr_drop {l : List Int} {i : Nat} (h : i < l.length) : l.drop i = l.getD i 0 :: l.drop (i + 1) := by
 rw [List.drop_eq_getElem_cons h, List.getD_eq_getElem?_getD, List.getElem?_eq_getElem h]; rfl
set_option maxHeartbeats 4000000 in
set_option maxRecDepth 100000 in
theorem lr_refused (A0 : Option Addr) (c0 : Nat) (l0 : List Int) (a1 a2 r2 : Int) (w : World)
  (h : ((a1 < 0 ∨ 255 < a1) ∧ r2 = 2) ∨ (0 ≤ a1 ∧ a1 ≤ 255 ∧ a2 < 0 ∧ r2 = 2) ∨ (0 ≤ a1 ∧ a1 ≤ 255 ∧ 0 ≤ a2 ∧ 65536 < a2 ∧ r2 = 3) ∨ (0 ≤ a1 ∧ a1 ≤ 255 ∧ 0 ≤ a2 ∧ a2 ≤ 65536 ∧ 1048576 < (l0.length : Int) ∧ r2 = 3) ∨
   (a1 = 0 ∧ 0 ≤ a2 ∧ a2 ≤ 65536 ∧ (l0.length : Int) ≤ 1048576 ∧ 0 < (l0.length : Int) ∧ r2 = 7)) :
  Calls Try.prog 27 #[.slice A0 l0.length c0, .int .i64 a1, .int .i64 a2] w (LrEnd w [] r2) := by
 rcases h with ⟨h, rfl⟩ | ⟨h1, h2, h, rfl⟩ | ⟨h1, h2, h3, h, rfl⟩ | ⟨h1, h2, h3, h4, h, rfl⟩ | ⟨rfl, h3, h4, h5, h, rfl⟩
 ·have HR := Aside0.mk (fun w => lr_right a1 false (lr_not h) w)
  clear h
  go_enter Try.func27, Try.ntmps27
  go_wp2_with fail
  refine (HR.out _).mono ?_
  rintro e W1 ⟨rfl, rfl⟩
  go_wp2
  go_ret2
  exact lr_end_nil (Below.refl _ _)
 ·have HR := Aside0.mk (fun w => lr_right a1 true (by rw [decide_eq_true h1, decide_eq_true h2]; rfl) w)
  have d := decide_eq_true h
  clear h h1 h2
  go_enter Try.func27, Try.ntmps27
  go_wp2_with fail
  refine (HR.out _).mono ?_
  rintro e W1 ⟨rfl, rfl⟩
  go_wp2
  go_ret2
  exact lr_end_nil (Below.refl _ _)
 ·have HR := Aside0.mk (fun w => lr_right a1 true (by rw [decide_eq_true h1, decide_eq_true h2]; rfl) w)
  have d := decide_eq_true h
  have d3 := decide_eq_false (show ¬ a2 < 0 by omega)
  clear h h1 h2 h3
  go_enter Try.func27, Try.ntmps27
  go_wp2_with fail
  refine (HR.out _).mono ?_
  rintro e W1 ⟨rfl, rfl⟩
  go_wp2
  go_ret2
  exact lr_end_nil (Below.refl _ _)
 ·have HR := Aside0.mk (fun w => lr_right a1 true (by rw [decide_eq_true h1, decide_eq_true h2]; rfl) w)
  have d := decide_eq_true h
  have d3 := decide_eq_false (show ¬ a2 < 0 by omega)
  have d4 := decide_eq_false (show ¬ 65536 < a2 by omega)
  clear h h1 h2 h3 h4
  go_enter Try.func27, Try.ntmps27
  go_wp2_with fail
  refine (HR.out _).mono ?_
  rintro e W1 ⟨rfl, rfl⟩
  go_wp2
  go_ret2
  exact lr_end_nil (Below.refl _ _)
 ·have HR := Aside0.mk (fun w => lr_right 0 true (by rfl) w)
  have d := decide_eq_true h
  have e := decide_eq_true (show 0 < l0.length by omega)
  have hn : 0 < l0.length := by omega
  have d3 := decide_eq_false (show ¬ a2 < 0 by omega)
  have d4 := decide_eq_false (show ¬ 65536 < a2 by omega)
  have d5 := decide_eq_false (show ¬ 1048576 < (l0.length : Int) by omega)
  clear h h3 h4 h5
  go_enter Try.func27, Try.ntmps27
  go_wp2_with fail
  refine (HR.out _).mono ?_
  rintro e W1 ⟨rfl, rfl⟩
  go_wp2
  go_ret2
  exact lr_end_nil (Below.refl _ _)
set_option maxHeartbeats 4000000 in
set_option maxRecDepth 100000 in
theorem lr_zero (A0 : Option Addr) (c0 : Nat) (l0 : List Int) (a2 : Int) (w : World) (h3 : 0 ≤ a2) (h4 : a2 ≤ 65536) (h5 : (l0.length : Int) ≤ 1048576) (h6 : l0.length = 0) :
  Calls Try.prog 27 #[.slice A0 l0.length c0, .int .i64 0, .int .i64 a2] w (LrEnd w (List.replicate a2.toNat 0) 0) := by
 have HR := Aside0.mk (fun w => lr_right 0 true (by rfl) w)
 have d3 := decide_eq_false (show ¬ a2 < 0 by omega)
 have d4 := decide_eq_false (show ¬ 65536 < a2 by omega)
 rw [h6]
 clear h6 h5
 have hz : 0 ≤ a2 := h3
 go_enter Try.func27, Try.ntmps27
 go_wp2_with fail
 refine (HR.out _).mono ?_
 rintro e W1 ⟨rfl, rfl⟩
 go_wp2_with (first | ((with_reducible refine gate_dst (N := 40) rfl ?_); (try (refine gate_guard (by rfl) ?_; dsimp only)); refine Kd.R_make (Kd.int .i64) _ 3 rfl (N := 40) rfl 23 _ _ rfl a2 rfl rfl Try.underlying23 (.int .i64 0) 8 info3 rfl (by decide) (by omega) 0 (ok := fun _ => True) (okp := fun _ => True) rfl (fun _ hk => hk) trivial h3 (by omega) (Below.refl _ _) (Nat.le_refl _) ?_; intro v2 w2 ho2 hb2 hg2 hnew2; clear hg2 hnew2; have HO := Aside0.mk ho2; have HB := Aside0.mk hb2; clear ho2 hb2))
 go_ret2
 exact ⟨_, rfl, HO.out, HB.out⟩
set_option maxHeartbeats 4000000 in
set_option maxRecDepth 100000 in
theorem lr_main (k : Nat) (A0 : Option Addr) (c0 : Nat) (l0 : List Int) (m : Nat) (a2 : Int) (p1 : List Int) (p2 : Int) (r1 : List Int) (r2 : Int) (w : World) (hr0 : Kd.C (Kd.int .u8) w A0 l0.length l0) (hc0 : l0.length ≤ c0) (hm0 : 0 < m) (hm1 : m ≤ 255) (h3 : 0 ≤ a2) (h4 : a2 ≤ 65536) (h5 : (l0.length : Int) ≤ 1048576)
  (hp : hybrid_Read.f k l0 ((Nx.wd m : Nat) : Int) a2 = some (p1, p2)) (h : (if p2 = 0 then (if p1.any (fun x => decide ((m : Int) < x)) = true then some ([], 4) else some (p1, 0)) else some ([], p2)) = some (r1, r2)) :
  Calls Try.prog 27 #[.slice A0 l0.length c0, .int .i64 m, .int .i64 a2] w (LrEnd w r1 r2) := by
 have HR := Aside0.mk (fun w => lr_right (m : Int) true (by rw [decide_eq_true (show (0 : Int) ≤ m by omega), decide_eq_true (show (m : Int) ≤ 255 by omega)]; rfl) w)
 have d3 := decide_eq_false (show ¬ a2 < 0 by omega)
 have d4 := decide_eq_false (show ¬ 65536 < a2 by omega)
 have d5 := decide_eq_false (show ¬ 1048576 < (l0.length : Int) by omega)
 have d6 : ((m : Int) == 0) = false := by simp; omega
 have HT := Aside0.mk (fun W => lv_table W)
 have ht := fun W => lv_index m (by omega) W
 obtain ⟨wm, hwm⟩ : ∃ x : Int, x = ((Nx.wd m : Nat) : Int) := ⟨_, rfl⟩
 rw [← hwm] at ht hp
 clear hwm
 have HP := Aside0.mk (fun W hb => hybrid_Read.calls k A0 c0 l0 wm a2 p1 p2 W (Kd.C_below hr0 hb) hc0 hp)
 have H := Aside0.mk h
 clear hp h hr0
 go_enter Try.func27, Try.ntmps27
 go_wp2_with fail
 refine (HR.out _).mono ?_
 rintro e W1 ⟨rfl, rfl⟩
 go_wp2_with fail
 refine (HT.out _).mono ?_
 rintro e W2 ⟨rfl, hB⟩
 have HB := Aside0.mk hB
 clear hB HT
 go_wp2_with fail
 refine (HP.out W2 HB.out).mono ?_
 rintro e W3 ⟨v0, rfl, hR, hB⟩
 have HB3 := Aside0.mk (HB.out.trans (hB.mono HB.out.size))
 have HR3 := Aside0.mk (Kd.R_lower hR HB.out.size)
 obtain ⟨Al, cl, rfl⟩ := Kd.R_slice hR
 have HC3 := Aside0.mk (Kd.R_reads' hR).2.2
 have hpl : p1.length ≤ 9223372036854775807 := (Kd.R_reads' hR).2.2.2.1
 clear hR hB HB HP ht
 by_cases c1 : p2 = 0
 ·subst c1
  go_wp2_with fail
  go_loopw [55] (fun v55 w' => ∃ j : Nat, v55 = .int .i64 j ∧ j ≤ p1.length ∧ Aside0 (p1.any (fun x => decide ((m : Int) < x)) = (p1.drop j).any (fun x => decide ((m : Int) < x))) ∧ w' = W3) (fun v55 _ => p1.length - (intOf v55).toNat)
  case atStart => exact ⟨0, rfl, Nat.zero_le _, ⟨rfl⟩, rfl⟩
  case round =>
   obtain ⟨j, rfl, hj, HA, rfl⟩ := hrel
   by_cases hlt : j < p1.length
   ·have hA := HA.out
    rw [lr_drop hlt, List.any_cons] at hA
    obtain ⟨ad, rfl, hcell⟩ := c_at HC3.out (j : Int) (by omega) (by omega)
    have e : rd p1 (j : Int) = p1.getD j 0 := rfl
    rw [e, show ((j : Int)).toNat = j from rfl] at hcell
    obtain ⟨x, hx⟩ : ∃ x, x = p1.getD j 0 := ⟨_, rfl⟩
    rw [← hx] at hcell hA
    clear e hx HA
    by_cases b1 : (m : Int) < x
    ·have hb1 := decide_eq_true b1
     have h := H.out
     rw [if_pos trivial, if_pos (by rw [hA, hb1]; rfl)] at h
     have hr := Aside0.mk (show [] = r1 ∧ 4 = r2 by simpa using h)
     clear h hA b1
     go_wp2
     go_ret2
     obtain ⟨rfl, rfl⟩ := hr.out
     exact lr_end_nil HB3.out
    ·have hb1 := decide_eq_false b1
     have HA' := Aside0.mk (show p1.any (fun x => decide ((m : Int) < x)) = (p1.drop (j + 1)).any (fun x => decide ((m : Int) < x)) by rw [hA, hb1]; rfl)
     clear hA b1
     go_wp2
     go_roundw
     case rel => exact ⟨j + 1, by go_num, by omega, HA', trivial⟩
     case measure => simp [intOf]; omega
   ·have hA := HA.out
    rw [List.drop_eq_nil_of_le (by omega)] at hA
    have h := H.out
    rw [if_pos trivial, if_neg (by rw [hA]; simp)] at h
    have hr := Aside0.mk (show p1 = r1 ∧ 0 = r2 by simpa using h)
    clear hA HA h
    go_wp2
    go_ret2
    obtain ⟨rfl, rfl⟩ := hr.out
    exact ⟨_, rfl, HR3.out, HB3.out⟩
 ·have d : (p2 != 0) = true := by simp [c1]
  have h := H.out
  rw [if_neg c1] at h
  have hr := Aside0.mk (show [] = r1 ∧ p2 = r2 by simpa using h)
  clear h c1
  go_wp2
  go_ret2
  obtain ⟨rfl, rfl⟩ := hr.out
  exact lr_end_nil HB3.out
theorem levels_Read.calls (k : Nat) (A0 : Option Addr) (c0 : Nat) (l0 : List Int) (a1 : Int) (a2 : Int) (r1 : List Int) (r2 : Int) (w : World) (hr0 : Kd.C (Kd.int .u8) w A0 l0.length l0) (hc0 : l0.length ≤ c0) (h : levels_Read.f k l0 a1 a2 = some (r1, r2)) :
  Calls Try.prog 27 #[.slice A0 l0.length c0, .int .i64 a1, .int .i64 a2] w fun e w' => ∃ v0_ : Value, e = .returned (.tuple #[v0_, .int .i64 r2]) ∧ Kd.R (Kd.int .i64) 3 w' w.heap.size (fun _ => True) v0_ r1 ∧ Below w.heap.size w w' := by
 unfold levels_Read.f at h
 by_cases b1 : a1 < 0
 ·rw [if_pos b1] at h
  obtain ⟨rfl, rfl⟩ : [] = r1 ∧ 2 = r2 := by simpa using h
  exact lr_refused A0 c0 l0 a1 a2 2 w (.inl ⟨.inl b1, rfl⟩)
 rw [if_neg b1] at h
 by_cases b2 : 255 < a1
 ·rw [if_pos b2] at h
  obtain ⟨rfl, rfl⟩ : [] = r1 ∧ 2 = r2 := by simpa using h
  exact lr_refused A0 c0 l0 a1 a2 2 w (.inl ⟨.inr b2, rfl⟩)
 rw [if_neg b2] at h
 by_cases b3 : a2 < 0
 ·rw [if_pos b3] at h
  obtain ⟨rfl, rfl⟩ : [] = r1 ∧ 2 = r2 := by simpa using h
  exact lr_refused A0 c0 l0 a1 a2 2 w (.inr (.inl ⟨by omega, by omega, b3, rfl⟩))
 rw [if_neg b3] at h
 by_cases b4 : 65536 < a2
 ·rw [if_pos b4] at h
  obtain ⟨rfl, rfl⟩ : [] = r1 ∧ 3 = r2 := by simpa using h
  exact lr_refused A0 c0 l0 a1 a2 3 w (.inr (.inr (.inl ⟨by omega, by omega, by omega, b4, rfl⟩)))
 rw [if_neg b4] at h
 by_cases b5 : 1048576 < (l0.length : Int)
 ·rw [if_pos b5] at h
  obtain ⟨rfl, rfl⟩ : [] = r1 ∧ 3 = r2 := by simpa using h
  exact lr_refused A0 c0 l0 a1 a2 3 w (.inr (.inr (.inr (.inl ⟨by omega, by omega, by omega, by omega, b5, rfl⟩))))
 rw [if_neg b5] at h
 by_cases b6 : a1 = 0
 ·rw [if_pos b6] at h
  subst b6
  by_cases b7 : 0 < (l0.length : Int)
  ·rw [if_pos b7] at h
   obtain ⟨rfl, rfl⟩ : [] = r1 ∧ 7 = r2 := by simpa using h
   exact lr_refused A0 c0 l0 0 a2 7 w (.inr (.inr (.inr (.inr ⟨rfl, by omega, by omega, by omega, b7, rfl⟩))))
  ·rw [if_neg b7] at h
   obtain ⟨rfl, rfl⟩ : List.replicate a2.toNat 0 = r1 ∧ 0 = r2 := by simpa using h
   exact lr_zero A0 c0 l0 a2 w (by omega) (by omega) (by omega) (by omega)
 ·rw [if_neg b6] at h
  obtain ⟨⟨p1, p2⟩, hp, h⟩ := Option.bind_eq_some_iff.1 h
  obtain ⟨m, rfl⟩ := Int.eq_ofNat_of_zero_le (show 0 ≤ a1 by omega)
  exact lr_main k A0 c0 l0 m a2 p1 p2 r1 r2 w hr0 hc0 (by omega) (by omega) (by omega) (by omega) (by omega) hp h
end Go.Proofs.Ytpibhiacmceekaa.X
end

section
namespace Go.Proofs.Ytpibhiacmceekaa.X
open Go.RowKit Go.Proofs.YtpibhiacmceekaaW.PrintWords Go.Proofs.YtpibhiacmceekaaW.PrintLast Go.Proofs.YtpibhiacmceekaaW.PrintMore
attribute [local go_sem] max2_int min2_int max_two min_two max_three min_three max_four min_four
set_option linter.unusedVariables false
set_option linter.unusedSimpArgs false
def levels_right.f (a0 : Int) : Option (Bool) := if a0 ≥ 0 then (some (decide (a0 ≤ 255))) else (some false)
set_option maxHeartbeats 8000000 in
set_option maxRecDepth 100000 in
theorem levels_right.calls (a0 : Int) (r : Bool) (w : World) (h : levels_right.f a0 = some r) :
  Calls Try.prog 46 #[.int .i64 a0] w fun e w' => e = .returned (.bool r) ∧ Drawn0 w w' := by
 have H : (if a0 ≥ 0 then (some (decide (a0 ≤ 255))) else (some false)) = some r := h
 clear h
 by_cases c2 : a0 ≥ 0
 ·rw [if_pos c2] at H
  have c2b0 : decide (0 ≤ a0) = true := decide_eq_true c2
  clear c2
  obtain rfl := Option.some.inj H
  go_enter Try.func46, Try.ntmps46
  go_wp2
  go_ret
  exact ⟨by first | rfl | (simp; done) | (simp [*]; done), by repeat (first | exact Drawn0.refl _ | apply Drawn0.step)⟩
 ·rw [if_neg c2] at H
  have c2b0 : decide (0 ≤ a0) = false := decide_eq_false c2
  clear c2
  obtain rfl := Option.some.inj H
  go_enter Try.func46, Try.ntmps46
  go_wp2
  go_ret
  exact ⟨by first | rfl | (simp; done) | (simp [*]; done), by repeat (first | exact Drawn0.refl _ | apply Drawn0.step)⟩
end Go.Proofs.Ytpibhiacmceekaa.X
end

section
namespace Go.Proofs.Ytpibhiacmceekaa.X
open Go.RowKit Go.Proofs.YtpibhiacmceekaaW.PrintWords Go.Proofs.YtpibhiacmceekaaW.PrintLast Go.Proofs.YtpibhiacmceekaaW.PrintMore
attribute [local go_sem] max2_int min2_int max_two min_two max_three min_three max_four min_four
set_option linter.unusedVariables false
set_option linter.unusedSimpArgs false
mutual
def levels_Unframe.j0 : Nat → List Int → Int → Int → Bool → Option (List Int × Int × Int)
 | 0, _, _, _, _ => none
 | k + 1, x0, x1, x2, x12 => if x12 = true then (some (([] : List Int), 0, 2)) else (if x2 > 65536 then (levels_Unframe.j1 k x0 x1 x2 true) else (levels_Unframe.j1 k x0 x1 x2 (decide ((x0.length : Int) > 1048576))))
def levels_Unframe.j1 : Nat → List Int → Int → Int → Bool → Option (List Int × Int × Int)
 | 0, _, _, _, _ => none
 | k + 1, x0, x1, x2, x20 => if x20 = true then (some (([] : List Int), 0, 3)) else (if x1 = 0 then (if 0 ≤ x2 then (if (x2 : Int).toNat ≤ 35184372088832 then (some ((List.replicate (x2 : Int).toNat 0), 0, 0)) else (none)) else (none)) else ((bits_ReadLittle.f k x0 0 4).bind fun bt428 => (if bt428.2 = 0 then (levels_Unframe.j2 k x0 x1 x2 bt428.1 (decide (bt428.1 > (IntKind.u64.wrap (wrap64 ((x0.length : Int) - 4)))))) else (levels_Unframe.j2 k x0 x1 x2 bt428.1 true))))
def levels_Unframe.j2 : Nat → List Int → Int → Int → Int → Bool → Option (List Int × Int × Int)
 | 0, _, _, _, _, _ => none
 | k + 1, x0, x1, x2, x9, x47 => if x47 = true then (some (([] : List Int), 0, 6)) else (if 4 ≤ (IntKind.u64.wrap (4 + x9)) then (if (IntKind.u64.wrap (4 + x9)) ≤ (x0.length : Int) then ((levels_Read.f k ((x0.take ((IntKind.u64.wrap (4 + x9)) : Int).toNat).drop 4) x1 x2).bind fun bt431 => (if bt431.2 = 0 then (some (bt431.1, wrap64 (4 + (wrap64 (x9))), 0)) else (some (([] : List Int), 0, bt431.2)))) else (none)) else (none))
end
def levels_Unframe.f (k : Nat) (l0 : List Int) (a1 : Int) (a2 : Int) : Option (List Int × Int × Int) := (levels_right.f a1).bind fun t424 => (if t424 = true then (levels_Unframe.j0 k l0 a1 a2 (decide (a2 < 0))) else (levels_Unframe.j0 k l0 a1 a2 true))
theorem levels_Unframe.mono_l : ∀ k, (∀ y0 y1 y2 y3, LeO (levels_Unframe.j0 k y0 y1 y2 y3) (levels_Unframe.j0 (k + 1) y0 y1 y2 y3)) ∧ (∀ y0 y1 y2 y3, LeO (levels_Unframe.j1 k y0 y1 y2 y3) (levels_Unframe.j1 (k + 1) y0 y1 y2 y3)) ∧ (∀ y0 y1 y2 y3 y4, LeO (levels_Unframe.j2 k y0 y1 y2 y3 y4) (levels_Unframe.j2 (k + 1) y0 y1 y2 y3 y4))
 | 0 => ⟨fun _ _ _ _ r h => by simp [levels_Unframe.j0] at h, fun _ _ _ _ r h => by simp [levels_Unframe.j1] at h, fun _ _ _ _ _ r h => by simp [levels_Unframe.j2] at h⟩
 | k + 1 => by
  obtain ⟨ih0, ih1, ih2⟩ := levels_Unframe.mono_l k
  refine ⟨?_, ?_, ?_⟩
  ·intro y0 y1 y2 y3
   unfold levels_Unframe.j0
   repeat' first
   | (with_reducible exact ih0 _ _ _ _)
   | (with_reducible exact ih1 _ _ _ _)
   | (with_reducible exact ih2 _ _ _ _ _)
   | (with_reducible exact bits_ReadLittle.mono _ _ _ _)
   | (with_reducible exact levels_Read.mono _ _ _ _)
   | (with_reducible exact LeO.refl _)
   | (with_reducible exact LeO.none _)
   | (with_reducible refine LeO.ite ?_ ?_)
   | (with_reducible refine LeO.bind ?_ (fun _ => ?_))
   | exact ih0 _ _ _ _
   | exact ih1 _ _ _ _
   | exact ih2 _ _ _ _ _
   | exact bits_ReadLittle.mono _ _ _ _
   | exact levels_Read.mono _ _ _ _
   | exact LeO.none _
   | refine LeO.ite ?_ ?_
   | refine LeO.bind ?_ (fun _ => ?_)
  ·intro y0 y1 y2 y3
   unfold levels_Unframe.j1
   repeat' first
   | (with_reducible exact ih0 _ _ _ _)
   | (with_reducible exact ih1 _ _ _ _)
   | (with_reducible exact ih2 _ _ _ _ _)
   | (with_reducible exact bits_ReadLittle.mono _ _ _ _)
   | (with_reducible exact levels_Read.mono _ _ _ _)
   | (with_reducible exact LeO.refl _)
   | (with_reducible exact LeO.none _)
   | (with_reducible refine LeO.ite ?_ ?_)
   | (with_reducible refine LeO.bind ?_ (fun _ => ?_))
   | exact ih0 _ _ _ _
   | exact ih1 _ _ _ _
   | exact ih2 _ _ _ _ _
   | exact bits_ReadLittle.mono _ _ _ _
   | exact levels_Read.mono _ _ _ _
   | exact LeO.none _
   | refine LeO.ite ?_ ?_
   | refine LeO.bind ?_ (fun _ => ?_)
  ·intro y0 y1 y2 y3 y4
   unfold levels_Unframe.j2
   repeat' first
   | (with_reducible exact ih0 _ _ _ _)
   | (with_reducible exact ih1 _ _ _ _)
   | (with_reducible exact ih2 _ _ _ _ _)
   | (with_reducible exact bits_ReadLittle.mono _ _ _ _)
   | (with_reducible exact levels_Read.mono _ _ _ _)
   | (with_reducible exact LeO.refl _)
   | (with_reducible exact LeO.none _)
   | (with_reducible refine LeO.ite ?_ ?_)
   | (with_reducible refine LeO.bind ?_ (fun _ => ?_))
   | exact ih0 _ _ _ _
   | exact ih1 _ _ _ _
   | exact ih2 _ _ _ _ _
   | exact bits_ReadLittle.mono _ _ _ _
   | exact levels_Read.mono _ _ _ _
   | exact LeO.none _
   | refine LeO.ite ?_ ?_
   | refine LeO.bind ?_ (fun _ => ?_)
theorem levels_Unframe.mono : ∀ a0 a1 a2 k, LeO (levels_Unframe.f k a0 a1 a2) (levels_Unframe.f (k + 1) a0 a1 a2) := by
 intro a0 a1 a2 k
 obtain ⟨ih0, ih1, ih2⟩ := levels_Unframe.mono_l k
 unfold levels_Unframe.f
 repeat' first
   | (with_reducible exact ih0 _ _ _ _)
   | (with_reducible exact ih1 _ _ _ _)
   | (with_reducible exact ih2 _ _ _ _ _)
   | (with_reducible exact bits_ReadLittle.mono _ _ _ _)
   | (with_reducible exact levels_Read.mono _ _ _ _)
   | (with_reducible exact LeO.refl _)
   | (with_reducible exact LeO.none _)
   | (with_reducible refine LeO.ite ?_ ?_)
   | (with_reducible refine LeO.bind ?_ (fun _ => ?_))
   | exact ih0 _ _ _ _
   | exact ih1 _ _ _ _
   | exact ih2 _ _ _ _ _
   | exact bits_ReadLittle.mono _ _ _ _
   | exact levels_Read.mono _ _ _ _
   | exact LeO.none _
   | refine LeO.ite ?_ ?_
   | refine LeO.bind ?_ (fun _ => ?_)
set_option maxHeartbeats 8000000 in
set_option maxRecDepth 100000 in
theorem levels_Unframe.calls (k : Nat) (A0 : Option Addr) (c0 : Nat) (l0 : List Int) (a1 : Int) (a2 : Int) (r1 : List Int) (r2 : Int) (r3 : Int) (w : World) (hr0 : Kd.C (Kd.int .u8) w A0 l0.length l0) (hc0 : l0.length ≤ c0) (h : levels_Unframe.f k l0 a1 a2 = some (r1, r2, r3)) :
  Calls Try.prog 29 #[.slice A0 l0.length c0, .int .i64 a1, .int .i64 a2] w fun e w' => ∃ v0_ : Value, e = .returned (.tuple #[v0_, .int .i64 r2, .int .i64 r3]) ∧ Kd.R (Kd.int .i64) 3 w' w.heap.size (fun _ => True) v0_ r1 ∧ Below w.heap.size w w' := by
 have HR0 := Aside0.mk hr0
 have HC0 := Aside0.mk hc0
 clear hr0 hc0
 have HB := Aside0.mk (Below.refl w.heap.size w)
 have H : ((levels_right.f a1).bind fun t424 => (if t424 = true then (levels_Unframe.j0 k l0 a1 a2 (decide (a2 < 0))) else (levels_Unframe.j0 k l0 a1 a2 true))) = some (r1, r2, r3) := h
 clear h
 have HC4 := Aside0.mk H
 clear H
 go_enter Try.func29, Try.ntmps29
 go_upto_region 1 with (fail)
 go_cut [12] (fun v12 wc => ∃ (kq : Nat) (x12_3 : Bool), v12 = .bool x12_3 ∧ Aside0 (levels_Unframe.j0 kq l0 a1 a2 x12_3 = some (r1, r2, r3)) ∧ Aside0 (kq ≤ k) ∧ Aside0 (Below w.heap.size w wc))
 case first =>
  have H := HC4.out
  clear HC4
  replace H := Option.bind_eq_some_iff.mp H
  obtain ⟨t424, A50, H⟩ := H
  replace H : (if t424 = true then (levels_Unframe.j0 k l0 a1 a2 (decide (a2 < 0))) else (levels_Unframe.j0 k l0 a1 a2 true)) = some (r1, r2, r3) := H
  have A5 := Aside0.mk A50
  clear A50
  by_cases c6 : t424 = true
  ·subst c6
   have H1 : (levels_Unframe.j0 k l0 a1 a2 (decide (a2 < 0))) = some (r1, r2, r3) := by rw [if_pos rfl] at H; exact H
   clear H
   have H := H1
   clear H1
   have H' := Aside0.mk H
   clear H
   go_wp2_with (first | ((with_reducible refine gate_callee (f := 46) rfl ?_); refine goesL_ (some 14) rfl rfl Try.func46 (by kernel_rfl) rfl #[.int .i64 a1] rfl (by (try simp only [List.map_toArray, List.map_cons, List.map_nil]); first | done | rfl | (simp only [List.length_drop, List.length_take]; rfl)) ?_; (with_reducible refine (levels_right.calls a1 true _ A5.out).mono ?_); rintro e w' ⟨rfl, ⟨nd, rfl⟩⟩; refine ⟨_, rfl, ?_⟩))
   go_meet
   case rel => exact ⟨_, (decide (a2 < 0)), (by first | rfl | (simp; done) | (simp [*]; done)), H', ⟨by first | omega | exact Nat.le_refl _⟩, ⟨by repeat (first | (with_reducible first | exact HB.out | apply below_alloc | apply pw_below_drewN | apply below_drew1) | exact HB.out)⟩⟩
  ·replace c6 := Bool.eq_false_iff.mpr c6
   subst c6
   have H1 : (levels_Unframe.j0 k l0 a1 a2 true) = some (r1, r2, r3) := by rw [if_neg (show ¬ (false = true) by decide)] at H; exact H
   clear H
   have H := H1
   clear H1
   have H' := Aside0.mk H
   clear H
   go_wp2_with (first | ((with_reducible refine gate_callee (f := 46) rfl ?_); refine goesL_ (some 14) rfl rfl Try.func46 (by kernel_rfl) rfl #[.int .i64 a1] rfl (by (try simp only [List.map_toArray, List.map_cons, List.map_nil]); first | done | rfl | (simp only [List.length_drop, List.length_take]; rfl)) ?_; (with_reducible refine (levels_right.calls a1 false _ A5.out).mono ?_); rintro e w' ⟨rfl, ⟨nd, rfl⟩⟩; refine ⟨_, rfl, ?_⟩))
   go_meet
   case rel => exact ⟨_, (true), (by first | rfl | (simp; done) | (simp [*]; done)), H', ⟨by first | omega | exact Nat.le_refl _⟩, ⟨by repeat (first | (with_reducible first | exact HB.out | apply below_alloc | apply pw_below_drewN | apply below_drew1) | exact HB.out)⟩⟩
 case rest =>
  clear HC4
  try clear c2
  try clear p2
  try clear c4
  try clear c6
  obtain ⟨kq, x12_3, rfl, HA, HJ3, HB⟩ := hcut
  cases kq with
  | zero => exact absurd HA.out (by simp [levels_Unframe.j0])
  | succ kj3 =>
   have H := HA.out
   clear HA
   simp only [levels_Unframe.j0] at H
   by_cases c7 : x12_3 = true
   ·subst c7
    have H1 : (some (([] : List Int), 0, 2)) = some (r1, r2, r3) := by rw [if_pos rfl] at H; exact H
    clear H
    have H := H1
    clear H1
    simp only [Option.some.injEq, Prod.mk.injEq] at H
    obtain ⟨rfl, rfl, rfl⟩ := H
    go_wp2
    go_ret3
    exact ⟨_, by first | rfl | (simp [errW_none, errW_some] <;> rfl) | (simp [*, errW_none, errW_some] <;> rfl), by first | exact Kd.R_nil _ _ _ _ _ | exact Kd.N_nil _ _ _ _ _ | exact Kd.V_nil _ _ _ _ _ | exact Kd.Q_nil _ _ _ _ _ | exact Kd.S_nil _ _ _ _ _, by repeat (first | (with_reducible first | exact HB.out | apply below_alloc | apply pw_below_drewN | apply below_drew1) | exact HB.out)⟩
   ·replace c7 := Bool.eq_false_iff.mpr c7
    subst c7
    have H1 : (if a2 > 65536 then (levels_Unframe.j1 kj3 l0 a1 a2 true) else (levels_Unframe.j1 kj3 l0 a1 a2 (decide ((l0.length : Int) > 1048576)))) = some (r1, r2, r3) := by rw [if_neg (show ¬ (false = true) by decide)] at H; exact H
    clear H
    have H := H1
    clear H1
    have HC8 := Aside0.mk H
    clear H
    go_upto_region 3 with (fail)
    go_cut [20] (fun v20 wc => ∃ (kq : Nat) (x20_7 : Bool), v20 = .bool x20_7 ∧ Aside0 (levels_Unframe.j1 kq l0 a1 a2 x20_7 = some (r1, r2, r3)) ∧ Aside0 (kq ≤ kj3) ∧ Aside0 (Below w.heap.size w wc))
    case first =>
     have H := HC8.out
     clear HC8
     by_cases c9 : a2 > 65536
     ·rw [if_pos c9] at H
      have c9b0 : decide (65536 < a2) = true := decide_eq_true c9
      clear c9
      (first | rw [c9b0] | (simp only [i64_w, i32_w]; rw [c9b0]) | skip)
      have H' := Aside0.mk H
      clear H
      go_wp2
      go_meet
      case rel => exact ⟨_, (true), (by first | rfl | (simp; done) | (simp [*]; done)), H', ⟨by have := HJ3.out; first | omega | exact Nat.le_refl _⟩, ⟨by repeat (first | (with_reducible first | exact HB.out | apply below_alloc | apply pw_below_drewN | apply below_drew1) | exact HB.out)⟩⟩
     ·rw [if_neg c9] at H
      have c9b0 : decide (65536 < a2) = false := decide_eq_false c9
      clear c9
      (first | rw [c9b0] | (simp only [i64_w, i32_w]; rw [c9b0]) | skip)
      have H' := Aside0.mk H
      clear H
      go_wp2
      go_meet
      case rel => exact ⟨_, (decide ((l0.length : Int) > 1048576)), (by first | rfl | (simp; done) | (simp [*]; done)), H', ⟨by have := HJ3.out; first | omega | exact Nat.le_refl _⟩, ⟨by repeat (first | (with_reducible first | exact HB.out | apply below_alloc | apply pw_below_drewN | apply below_drew1) | exact HB.out)⟩⟩
    case rest =>
     clear HC8
     try clear c2
     try clear p2
     try clear c4
     try clear c6
     try clear c7
     try clear c9
     try clear c9b0
     try clear p2
     obtain ⟨kq, x20_7, rfl, HA, HJ7, HB⟩ := hcut
     cases kq with
     | zero => exact absurd HA.out (by simp [levels_Unframe.j1])
     | succ kj7 =>
      have H := HA.out
      clear HA
      simp only [levels_Unframe.j1] at H
      by_cases c10 : x20_7 = true
      ·subst c10
       have H1 : (some (([] : List Int), 0, 3)) = some (r1, r2, r3) := by rw [if_pos rfl] at H; exact H
       clear H
       have H := H1
       clear H1
       simp only [Option.some.injEq, Prod.mk.injEq] at H
       obtain ⟨rfl, rfl, rfl⟩ := H
       go_wp2
       go_ret3
       exact ⟨_, by first | rfl | (simp [errW_none, errW_some] <;> rfl) | (simp [*, errW_none, errW_some] <;> rfl), by first | exact Kd.R_nil _ _ _ _ _ | exact Kd.N_nil _ _ _ _ _ | exact Kd.V_nil _ _ _ _ _ | exact Kd.Q_nil _ _ _ _ _ | exact Kd.S_nil _ _ _ _ _, by repeat (first | (with_reducible first | exact HB.out | apply below_alloc | apply pw_below_drewN | apply below_drew1) | exact HB.out)⟩
      ·replace c10 := Bool.eq_false_iff.mpr c10
       subst c10
       have H1 : (if a1 = 0 then (if 0 ≤ a2 then (if (a2 : Int).toNat ≤ 35184372088832 then (some ((List.replicate (a2 : Int).toNat 0), 0, 0)) else (none)) else (none)) else ((bits_ReadLittle.f kj7 l0 0 4).bind fun bt428 => (if bt428.2 = 0 then (levels_Unframe.j2 kj7 l0 a1 a2 bt428.1 (decide (bt428.1 > (IntKind.u64.wrap (wrap64 ((l0.length : Int) - 4)))))) else (levels_Unframe.j2 kj7 l0 a1 a2 bt428.1 true)))) = some (r1, r2, r3) := by rw [if_neg (show ¬ (false = true) by decide)] at H; exact H
       clear H
       have H := H1
       clear H1
       by_cases c11 : a1 = 0
       ·rw [if_pos c11] at H
        have c11b0 : (a1 == 0) = true := beq_iff_eq.mpr c11
        have c11b1 : (a1 != 0) = false := bne_eq_false_iff_eq.mpr c11
        clear c11
        by_cases c12 : 0 ≤ a2
        ·rw [if_pos c12] at H
         have c12b0 := eq_true c12
         have c12b1 : decide (0 ≤ a2) = true := decide_eq_true c12
         clear c12
         by_cases c13 : (a2 : Int).toNat ≤ 35184372088832
         ·rw [if_pos c13] at H
          have c13b0 := eq_true c13
          have c13b1 : decide ((a2 : Int).toNat ≤ 35184372088832) = true := decide_eq_true c13
          clear c13
          obtain ⟨y425, hy425⟩ : ∃ y_ : List Int, y_ = (List.replicate (a2 : Int).toNat 0) := ⟨_, rfl⟩
          replace H : (some (y425, 0, 0)) = some (r1, r2, r3) := by first | (rw [hy425]; with_reducible exact H) | (have H2_ := (Option.bind_some _ _).symm.trans H; rw [hy425]; with_reducible exact H2_) | (have H2_ := (Option.bind_some _ _).symm.trans H; with_reducible exact H2_) | with_reducible exact H | (rw [hy425]; exact H) | exact H
          have Ny425 := Aside0.mk hy425
          clear hy425
          simp only [Option.some.injEq, Prod.mk.injEq] at H
          obtain ⟨rfl, rfl, rfl⟩ := H
          go_wp2_with (first | ((with_reducible refine gate_dst (N := 32) rfl ?_); (try (refine gate_guard (by rfl) ?_; dsimp only)); refine Kd.R_make (Kd.int .i64) _ 3 rfl (N := 32) rfl 23 _ _ rfl a2 rfl rfl Try.underlying23 (.int .i64 0) 8 info3 rfl (by decide) (by omega) 0 (ok := fun _ => True) (okp := fun _ => True) rfl (fun _ hk => hk) trivial (of_decide_eq_true (by first | (with_reducible assumption) | assumption)) (Nat.le_trans (Nat.mul_le_mul_right _ (of_decide_eq_true (by first | (with_reducible assumption) | assumption) : a2.toNat ≤ 35184372088832)) (by omega)) (Below.refl _ _) (Nat.le_refl _) ?_; intro v426 w14 ho15 hb hg_ hnew_; clear hg_ hnew_; (first | rw [← Ny425.out] at ho15 | (simp only [Int.reduceToNat] at ho15; rw [← Ny425.out] at ho15)); have n0_ := Aside0.mk (Kd.R_lower ho15 (below_size (by repeat (first | (with_reducible first | exact HB.out | apply below_alloc | apply pw_below_drewN | apply below_drew1) | exact HB.out)))); have n1_ := Aside0.mk (below_step (by repeat (first | (with_reducible first | exact HB.out | apply below_alloc | apply pw_below_drewN | apply below_drew1) | exact HB.out)) hb); clear HB; have HO427 := n0_; have HB := n1_; clear n0_ n1_; clear hb ho15))
          go_ret3
          exact ⟨_, by first | rfl | (simp [errW_none, errW_some] <;> rfl) | (simp [*, errW_none, errW_some] <;> rfl), by (with_reducible repeat (first | apply Kd.R_alloc | apply Kd.R_drewN | apply Kd.R_drew)); exact HO427.out, by repeat (first | (with_reducible first | exact HB.out | apply below_alloc | apply pw_below_drewN | apply below_drew1) | exact HB.out)⟩
         ·rw [if_neg c13] at H
          exact absurd H (by simp)
        ·rw [if_neg c12] at H
         exact absurd H (by simp)
       ·rw [if_neg c11] at H
        have c11b0 : (a1 == 0) = false := beq_eq_false_iff_ne.mpr c11
        have c11b1 : (a1 != 0) = true := bne_iff_ne.mpr c11
        replace H := Option.bind_eq_some_iff.mp H
        obtain ⟨⟨t428, t429⟩, A160, H⟩ := H
        replace H : (if t429 = 0 then (levels_Unframe.j2 kj7 l0 a1 a2 t428 (decide (t428 > (IntKind.u64.wrap (wrap64 ((l0.length : Int) - 4)))))) else (levels_Unframe.j2 kj7 l0 a1 a2 t428 true)) = some (r1, r2, r3) := H
        have A16 := Aside0.mk A160
        clear A160
        have HC17 := Aside0.mk H
        clear H
        go_upto_region 8 with (first | ((with_reducible refine gate_callee (f := 50) rfl ?_); refine goesL_ (some 35) rfl rfl Try.func50 (by kernel_rfl) rfl #[.slice A0 l0.length c0, .int .i64 0, .int .i64 4] rfl (by (try simp only [List.map_toArray, List.map_cons, List.map_nil]); first | done | rfl | (simp only [List.length_drop, List.length_take]; rfl)) ?_; (with_reducible refine (bits_ReadLittle.calls kj7 _ _ l0 0 4 t428 t429 _ ?side1 ?side2 A16.out).mono ?_); (case side1 => repeat (first | exact (Kd.C_below HR0.out HB.out) | (with_reducible refine Kd.C_alloc ?_ _) | (with_reducible refine Kd.C_drewN ?_ _) | (with_reducible refine Kd.C_drew ?_))); (case side2 => exact HC0.out); rintro e w' ⟨rfl, ⟨nd, rfl⟩⟩; refine ⟨_, rfl, ?_⟩))
        (try simp only [Act.put, List.setIfInBounds_toArray, List.set_cons_zero, List.set_cons_succ])
        go_cut [47] (fun v47 wc => ∃ (kq : Nat) (x47_16 : Bool), v47 = .bool x47_16 ∧ Aside0 (levels_Unframe.j2 kq l0 a1 a2 t428 x47_16 = some (r1, r2, r3)) ∧ Aside0 (kq ≤ kj7) ∧ Aside0 (Below w.heap.size w wc))
        case first =>
         have H := HC17.out
         clear HC17
         by_cases c18 : t429 = 0
         ·rw [if_pos c18] at H
          have c18b0 : (t429 == 0) = true := beq_iff_eq.mpr c18
          have c18b1 : (t429 != 0) = false := bne_eq_false_iff_eq.mpr c18
          clear c18
          (first | rw [c18b0] | (simp only [i64_w, i32_w]; rw [c18b0]) | skip)
          have H' := Aside0.mk H
          clear H
          go_wp2
          go_meet
          case rel => exact ⟨_, (decide (t428 > (IntKind.u64.wrap (wrap64 ((l0.length : Int) - 4))))), (by first | rfl | (simp; done) | (simp [*]; done)), H', ⟨by have := HJ3.out; have := HJ7.out; first | omega | exact Nat.le_refl _⟩, ⟨by repeat (first | (with_reducible first | exact HB.out | apply below_alloc | apply pw_below_drewN | apply below_drew1) | exact HB.out)⟩⟩
         ·rw [if_neg c18] at H
          have c18b0 : (t429 == 0) = false := beq_eq_false_iff_ne.mpr c18
          have c18b1 : (t429 != 0) = true := bne_iff_ne.mpr c18
          (first | rw [c18b0] | (simp only [i64_w, i32_w]; rw [c18b0]) | skip)
          have H' := Aside0.mk H
          clear H
          go_wp2
          go_meet
          case rel => exact ⟨_, (true), (by first | rfl | (simp; done) | (simp [*]; done)), H', ⟨by have := HJ3.out; have := HJ7.out; first | omega | exact Nat.le_refl _⟩, ⟨by repeat (first | (with_reducible first | exact HB.out | apply below_alloc | apply pw_below_drewN | apply below_drew1) | exact HB.out)⟩⟩
        case rest =>
         clear HC17
         try clear c1
         try clear c2
         try clear p2
         try clear c4
         try clear c5
         try clear c6
         try clear p6
         try clear c7
         try clear c9
         try clear c9b0
         try clear c10
         try clear c11
         try clear c11b0
         try clear c11b1
         try clear c12
         try clear c12b0
         try clear c12b1
         try clear c13
         try clear c13b0
         try clear c13b1
         try clear c18
         try clear c18b0
         try clear c18b1
         try clear p2
         obtain ⟨kq, x47_16, rfl, HA, HJ16, HB⟩ := hcut
         cases kq with
         | zero => exact absurd HA.out (by simp [levels_Unframe.j2])
         | succ kj16 =>
          have H := HA.out
          clear HA
          simp only [levels_Unframe.j2] at H
          by_cases c19 : x47_16 = true
          ·subst c19
           have H1 : (some (([] : List Int), 0, 6)) = some (r1, r2, r3) := by rw [if_pos rfl] at H; exact H
           clear H
           have H := H1
           clear H1
           simp only [Option.some.injEq, Prod.mk.injEq] at H
           obtain ⟨rfl, rfl, rfl⟩ := H
           go_wp2
           go_ret3
           exact ⟨_, by first | rfl | (simp [errW_none, errW_some] <;> rfl) | (simp [*, errW_none, errW_some] <;> rfl), by first | exact Kd.R_nil _ _ _ _ _ | exact Kd.N_nil _ _ _ _ _ | exact Kd.V_nil _ _ _ _ _ | exact Kd.Q_nil _ _ _ _ _ | exact Kd.S_nil _ _ _ _ _, by repeat (first | (with_reducible first | exact HB.out | apply below_alloc | apply pw_below_drewN | apply below_drew1) | exact HB.out)⟩
          ·replace c19 := Bool.eq_false_iff.mpr c19
           subst c19
           have H1 : (if 4 ≤ (IntKind.u64.wrap (4 + t428)) then (if (IntKind.u64.wrap (4 + t428)) ≤ (l0.length : Int) then ((levels_Read.f kj16 ((l0.take ((IntKind.u64.wrap (4 + t428)) : Int).toNat).drop 4) a1 a2).bind fun bt431 => (if bt431.2 = 0 then (some (bt431.1, wrap64 (4 + (wrap64 (t428))), 0)) else (some (([] : List Int), 0, bt431.2)))) else (none)) else (none)) = some (r1, r2, r3) := by rw [if_neg (show ¬ (false = true) by decide)] at H; exact H
           clear H
           have H := H1
           clear H1
           by_cases c20 : 4 ≤ (IntKind.u64.wrap (4 + t428))
           ·rw [if_pos c20] at H
            have c20b0 := eq_true c20
            have c20b1 : decide (4 ≤ (IntKind.u64.wrap (4 + t428))) = true := decide_eq_true c20
            by_cases c21 : (IntKind.u64.wrap (4 + t428)) ≤ (l0.length : Int)
            ·rw [if_pos c21] at H
             have c21b0 := eq_true c21
             have c21b1 : decide ((IntKind.u64.wrap (4 + t428)) ≤ (l0.length : Int)) = true := decide_eq_true c21
             replace H := Option.bind_eq_some_iff.mp H
             obtain ⟨⟨t431, t432⟩, A220, H⟩ := H
             replace H : (if t432 = 0 then (some (t431, wrap64 (4 + (wrap64 (t428))), 0)) else (some (([] : List Int), 0, t432))) = some (r1, r2, r3) := H
             have A22 := Aside0.mk A220
             clear A220
             by_cases c23 : t432 = 0
             ·rw [if_pos c23] at H
              have c23b0 : (t432 == 0) = true := beq_iff_eq.mpr c23
              have c23b1 : (t432 != 0) = false := bne_eq_false_iff_eq.mpr c23
              clear c23
              simp only [Option.some.injEq, Prod.mk.injEq] at H
              obtain ⟨rfl, rfl, rfl⟩ := H
              obtain ⟨i024, hi024, _, hsz24, _⟩ := info_parts info5
              obtain ⟨A24, hcut24, hA24, hC24⟩ := print_mid_of (P := Try.prog) (Value.int .u8) 0 37 5 .i64 .u64 Try.underlying37 hi024 hsz24 A0 c0 l0 4 (IntKind.u64.wrap (4 + t428)) (by omega) (by first | omega | exact of_decide_eq_true (by first | (with_reducible assumption) | assumption)) (of_decide_eq_true (by first | (with_reducible assumption) | assumption)) HC0.out
              have HR430 := Aside0.mk (Kd.C_of_reads (h1 := fun _ => rfl) (hA24 _ (Kd.reads_of_C HR0.out)))
              have HC430 := Aside0.mk hC24
              clear hA24 hC24 hi024 hsz24
              go_wp2_with (first | ((with_reducible refine gate_callee (f := 27) rfl ?_); refine goesL_ (some 55) rfl rfl Try.func27 (by kernel_rfl) rfl #[.slice A24 ((l0.take ((IntKind.u64.wrap (4 + t428)) : Int).toNat).drop 4).length (c0 - 4), .int .i64 a1, .int .i64 a2] rfl (by (try simp only [List.map_toArray, List.map_cons, List.map_nil]); first | done | (rw [show ((l0.take ((IntKind.u64.wrap (4 + t428)) : Int).toNat).drop 4).length = ((IntKind.u64.wrap (4 + t428)).toNat - 4) from (by rw [List.length_drop, List.length_take]; have h_ : ((IntKind.u64.wrap (4 + t428)) : Int) ≤ (l0.length : Int) := of_decide_eq_true (by first | (with_reducible assumption) | assumption); omega)] <;> rfl) | rfl | (simp only [List.length_drop, List.length_take]; rfl)) ?_; (with_reducible refine (levels_Read.calls kj16 _ _ ((l0.take ((IntKind.u64.wrap (4 + t428)) : Int).toNat).drop 4) a1 a2 t431 t432 _ ?side1 ?side2 A22.out).mono ?_); (case side1 => repeat (first | exact (Kd.C_below HR430.out HB.out) | (with_reducible refine Kd.C_alloc ?_ _) | (with_reducible refine Kd.C_drewN ?_ _) | (with_reducible refine Kd.C_drew ?_))); (case side2 => exact HC430.out); rintro e w25 ⟨v433, rfl, ho0, hb⟩; refine ⟨_, rfl, ?_⟩; have n0_ := Aside0.mk (Kd.R_lower ho0 (below_size (by repeat (first | (with_reducible first | exact HB.out | apply below_alloc | apply pw_below_drewN | apply below_drew1) | exact HB.out)))); have n1_ := Aside0.mk (below_step (by repeat (first | (with_reducible first | exact HB.out | apply below_alloc | apply pw_below_drewN | apply below_drew1) | exact HB.out)) hb); clear HB; have HO434 := n0_; have HB := n1_; clear n0_ n1_; (try clear hb); (try clear hb2); (try clear hk); (try clear hi); (try clear ho0)))
              go_ret3
              exact ⟨_, by first | rfl | (simp [errW_none, errW_some] <;> rfl) | (simp [*, errW_none, errW_some] <;> rfl), by (with_reducible repeat (first | apply Kd.R_alloc | apply Kd.R_drewN | apply Kd.R_drew)); exact HO434.out, by repeat (first | (with_reducible first | exact HB.out | apply below_alloc | apply pw_below_drewN | apply below_drew1) | exact HB.out)⟩
             ·rw [if_neg c23] at H
              have c23b0 : (t432 == 0) = false := beq_eq_false_iff_ne.mpr c23
              have c23b1 : (t432 != 0) = true := bne_iff_ne.mpr c23
              simp only [Option.some.injEq, Prod.mk.injEq] at H
              obtain ⟨rfl, rfl, rfl⟩ := H
              obtain ⟨i026, hi026, _, hsz26, _⟩ := info_parts info5
              obtain ⟨A26, hcut26, hA26, hC26⟩ := print_mid_of (P := Try.prog) (Value.int .u8) 0 37 5 .i64 .u64 Try.underlying37 hi026 hsz26 A0 c0 l0 4 (IntKind.u64.wrap (4 + t428)) (by omega) (by first | omega | exact of_decide_eq_true (by first | (with_reducible assumption) | assumption)) (of_decide_eq_true (by first | (with_reducible assumption) | assumption)) HC0.out
              have HR430 := Aside0.mk (Kd.C_of_reads (h1 := fun _ => rfl) (hA26 _ (Kd.reads_of_C HR0.out)))
              have HC430 := Aside0.mk hC26
              clear hA26 hC26 hi026 hsz26
              go_wp2_with (first | ((with_reducible refine gate_callee (f := 27) rfl ?_); refine goesL_ (some 55) rfl rfl Try.func27 (by kernel_rfl) rfl #[.slice A26 ((l0.take ((IntKind.u64.wrap (4 + t428)) : Int).toNat).drop 4).length (c0 - 4), .int .i64 a1, .int .i64 a2] rfl (by (try simp only [List.map_toArray, List.map_cons, List.map_nil]); first | done | (rw [show ((l0.take ((IntKind.u64.wrap (4 + t428)) : Int).toNat).drop 4).length = ((IntKind.u64.wrap (4 + t428)).toNat - 4) from (by rw [List.length_drop, List.length_take]; have h_ : ((IntKind.u64.wrap (4 + t428)) : Int) ≤ (l0.length : Int) := of_decide_eq_true (by first | (with_reducible assumption) | assumption); omega)] <;> rfl) | rfl | (simp only [List.length_drop, List.length_take]; rfl)) ?_; (with_reducible refine (levels_Read.calls kj16 _ _ ((l0.take ((IntKind.u64.wrap (4 + t428)) : Int).toNat).drop 4) a1 a2 t431 t432 _ ?side1 ?side2 A22.out).mono ?_); (case side1 => repeat (first | exact (Kd.C_below HR430.out HB.out) | (with_reducible refine Kd.C_alloc ?_ _) | (with_reducible refine Kd.C_drewN ?_ _) | (with_reducible refine Kd.C_drew ?_))); (case side2 => exact HC430.out); rintro e w27 ⟨v433, rfl, ho0, hb⟩; refine ⟨_, rfl, ?_⟩; have n0_ := Aside0.mk (Kd.R_lower ho0 (below_size (by repeat (first | (with_reducible first | exact HB.out | apply below_alloc | apply pw_below_drewN | apply below_drew1) | exact HB.out)))); have n1_ := Aside0.mk (below_step (by repeat (first | (with_reducible first | exact HB.out | apply below_alloc | apply pw_below_drewN | apply below_drew1) | exact HB.out)) hb); clear HB; have HO434 := n0_; have HB := n1_; clear n0_ n1_; (try clear hb); (try clear hb2); (try clear hk); (try clear hi); (try clear ho0)))
              go_ret3
              exact ⟨_, by first | rfl | (simp [errW_none, errW_some] <;> rfl) | (simp [*, errW_none, errW_some] <;> rfl), by first | exact Kd.R_nil _ _ _ _ _ | exact Kd.N_nil _ _ _ _ _ | exact Kd.V_nil _ _ _ _ _ | exact Kd.Q_nil _ _ _ _ _ | exact Kd.S_nil _ _ _ _ _, by repeat (first | (with_reducible first | exact HB.out | apply below_alloc | apply pw_below_drewN | apply below_drew1) | exact HB.out)⟩
            ·rw [if_neg c21] at H
             exact absurd H (by simp)
           ·rw [if_neg c20] at H
            exact absurd H (by simp)
end Go.Proofs.Ytpibhiacmceekaa.X
end

section
namespace Go.Proofs.Ytpibhiacmceekaa.X
open Go.RowKit Go.Proofs.YtpibhiacmceekaaW.PrintWords Go.Proofs.YtpibhiacmceekaaW.PrintLast Go.Proofs.YtpibhiacmceekaaW.PrintMore
attribute [local go_sem] max2_int min2_int max_two min_two max_three min_three max_four min_four
set_option linter.unusedVariables false
set_option linter.unusedSimpArgs false
mutual
def marquetrylaw20_LevelsBack.j0 : Nat → Int → List Int → List Int → Bool → Option (Bool)
 | 0, _, _, _, _ => none
 | k + 1, x0, x1, x2, x23 => if x23 = true then (some true) else ((levels_Write.f k x0 x1).bind fun bt520 => ((levels_Framed.f k x0 x1).bind fun bt524 => (if bt520.2 = 0 then (marquetrylaw20_LevelsBack.j1 k x0 x1 x2 bt520.1 bt520.2 bt524.1 bt524.2 (bt524.2 != 0)) else (marquetrylaw20_LevelsBack.j1 k x0 x1 x2 bt520.1 bt520.2 bt524.1 bt524.2 true))))
def marquetrylaw20_LevelsBack.j1 : Nat → Int → List Int → List Int → List Int → Int → List Int → Int → Bool → Option (Bool)
 | 0, _, _, _, _, _, _, _, _ => none
 | k + 1, x0, x1, x2, x7, x8, x9, x10, x41 => if x41 = true then (if x8 = x10 then (some ((wrap64 ((x7.length : Int) + (x9.length : Int))) == 0)) else (some false)) else ((levels_Read.f k x7 x0 (x1.length : Int)).bind fun bt528 => (if ([] : List Int).length + x9.length < 140737488355328 then ((some (([] : List Int) ++ x9 : List Int)).bind fun y532 => (if y532.length + x2.length < 140737488355328 then ((levels_Unframe.f k (y532 ++ x2) x0 (x1.length : Int)).bind fun bt538 => (if bt528.2 = 0 then (if bt538.2.2 = 0 then ((marquetryref11_SameInts.f k bt528.1 x1).bind fun t543 => (if t543 = true then ((marquetryref11_SameInts.f k bt538.1 x1).bind fun t544 => (if t544 = true then (some (bt538.2.1 == (x9.length : Int))) else (some false))) else (some false))) else (some false)) else (some false))) else (none))) else (none)))
end
def marquetrylaw20_LevelsBack.f (k : Nat) (a0 : Int) (l1 : List Int) (l2 : List Int) : Option (Bool) := if (l1.length : Int) > 400 then (marquetrylaw20_LevelsBack.j0 k a0 l1 l2 true) else (marquetrylaw20_LevelsBack.j0 k a0 l1 l2 (decide ((l2.length : Int) > 400)))
theorem marquetrylaw20_LevelsBack.mono_l : ∀ k, (∀ y0 y1 y2 y3, LeO (marquetrylaw20_LevelsBack.j0 k y0 y1 y2 y3) (marquetrylaw20_LevelsBack.j0 (k + 1) y0 y1 y2 y3)) ∧ (∀ y0 y1 y2 y3 y4 y5 y6 y7, LeO (marquetrylaw20_LevelsBack.j1 k y0 y1 y2 y3 y4 y5 y6 y7) (marquetrylaw20_LevelsBack.j1 (k + 1) y0 y1 y2 y3 y4 y5 y6 y7))
 | 0 => ⟨fun _ _ _ _ r h => by simp [marquetrylaw20_LevelsBack.j0] at h, fun _ _ _ _ _ _ _ _ r h => by simp [marquetrylaw20_LevelsBack.j1] at h⟩
 | k + 1 => by
  obtain ⟨ih0, ih1⟩ := marquetrylaw20_LevelsBack.mono_l k
  refine ⟨?_, ?_⟩
  ·intro y0 y1 y2 y3
   unfold marquetrylaw20_LevelsBack.j0
   repeat' first
   | (with_reducible exact ih0 _ _ _ _)
   | (with_reducible exact ih1 _ _ _ _ _ _ _ _)
   | (with_reducible exact levels_Framed.mono _ _ _)
   | (with_reducible exact levels_Read.mono _ _ _ _)
   | (with_reducible exact levels_Unframe.mono _ _ _ _)
   | (with_reducible exact levels_Write.mono _ _ _)
   | (with_reducible exact marquetryref11_SameInts.mono _ _ _)
   | (with_reducible exact LeO.refl _)
   | (with_reducible exact LeO.none _)
   | (with_reducible refine LeO.ite ?_ ?_)
   | (with_reducible refine LeO.bind ?_ (fun _ => ?_))
   | exact ih0 _ _ _ _
   | exact ih1 _ _ _ _ _ _ _ _
   | exact levels_Framed.mono _ _ _
   | exact levels_Read.mono _ _ _ _
   | exact levels_Unframe.mono _ _ _ _
   | exact levels_Write.mono _ _ _
   | exact marquetryref11_SameInts.mono _ _ _
   | exact LeO.none _
   | refine LeO.ite ?_ ?_
   | refine LeO.bind ?_ (fun _ => ?_)
  ·intro y0 y1 y2 y3 y4 y5 y6 y7
   unfold marquetrylaw20_LevelsBack.j1
   repeat' first
   | (with_reducible exact ih0 _ _ _ _)
   | (with_reducible exact ih1 _ _ _ _ _ _ _ _)
   | (with_reducible exact levels_Framed.mono _ _ _)
   | (with_reducible exact levels_Read.mono _ _ _ _)
   | (with_reducible exact levels_Unframe.mono _ _ _ _)
   | (with_reducible exact levels_Write.mono _ _ _)
   | (with_reducible exact marquetryref11_SameInts.mono _ _ _)
   | (with_reducible exact LeO.refl _)
   | (with_reducible exact LeO.none _)
   | (with_reducible refine LeO.ite ?_ ?_)
   | (with_reducible refine LeO.bind ?_ (fun _ => ?_))
   | exact ih0 _ _ _ _
   | exact ih1 _ _ _ _ _ _ _ _
   | exact levels_Framed.mono _ _ _
   | exact levels_Read.mono _ _ _ _
   | exact levels_Unframe.mono _ _ _ _
   | exact levels_Write.mono _ _ _
   | exact marquetryref11_SameInts.mono _ _ _
   | exact LeO.none _
   | refine LeO.ite ?_ ?_
   | refine LeO.bind ?_ (fun _ => ?_)
theorem marquetrylaw20_LevelsBack.mono : ∀ a0 a1 a2 k, LeO (marquetrylaw20_LevelsBack.f k a0 a1 a2) (marquetrylaw20_LevelsBack.f (k + 1) a0 a1 a2) := by
 intro a0 a1 a2 k
 obtain ⟨ih0, ih1⟩ := marquetrylaw20_LevelsBack.mono_l k
 unfold marquetrylaw20_LevelsBack.f
 repeat' first
   | (with_reducible exact ih0 _ _ _ _)
   | (with_reducible exact ih1 _ _ _ _ _ _ _ _)
   | (with_reducible exact levels_Framed.mono _ _ _)
   | (with_reducible exact levels_Read.mono _ _ _ _)
   | (with_reducible exact levels_Unframe.mono _ _ _ _)
   | (with_reducible exact levels_Write.mono _ _ _)
   | (with_reducible exact marquetryref11_SameInts.mono _ _ _)
   | (with_reducible exact LeO.refl _)
   | (with_reducible exact LeO.none _)
   | (with_reducible refine LeO.ite ?_ ?_)
   | (with_reducible refine LeO.bind ?_ (fun _ => ?_))
   | exact ih0 _ _ _ _
   | exact ih1 _ _ _ _ _ _ _ _
   | exact levels_Framed.mono _ _ _
   | exact levels_Read.mono _ _ _ _
   | exact levels_Unframe.mono _ _ _ _
   | exact levels_Write.mono _ _ _
   | exact marquetryref11_SameInts.mono _ _ _
   | exact LeO.none _
   | refine LeO.ite ?_ ?_
   | refine LeO.bind ?_ (fun _ => ?_)
set_option maxHeartbeats 8000000 in
set_option maxRecDepth 100000 in
theorem marquetrylaw20_LevelsBack.calls (k : Nat) (a0 : Int) (A1 : Option Addr) (c1 : Nat) (l1 : List Int) (A2 : Option Addr) (c2 : Nat) (l2 : List Int) (r : Bool) (w : World) (hr1 : Kd.C (Kd.int .i64) w A1 l1.length l1) (hc1 : l1.length ≤ c1) (hr2 : Kd.C (Kd.int .u8) w A2 l2.length l2) (hc2 : l2.length ≤ c2) (h : marquetrylaw20_LevelsBack.f k a0 l1 l2 = some r) :
  Calls Try.prog 13 #[.int .i64 a0, .slice A1 l1.length c1, .slice A2 l2.length c2] w fun e w' => e = .returned (.bool r) ∧ Below w.heap.size w w' := by
 have HR1 := Aside0.mk hr1
 have HC1 := Aside0.mk hc1
 clear hr1 hc1
 have HR2 := Aside0.mk hr2
 have HC2 := Aside0.mk hc2
 clear hr2 hc2
 have HB := Aside0.mk (Below.refl w.heap.size w)
 have H : (if (l1.length : Int) > 400 then (marquetrylaw20_LevelsBack.j0 k a0 l1 l2 true) else (marquetrylaw20_LevelsBack.j0 k a0 l1 l2 (decide ((l2.length : Int) > 400)))) = some r := h
 clear h
 have HC4 := Aside0.mk H
 clear H
 go_enter Try.func13, Try.ntmps13
 go_upto_region 1 with (fail)
 go_cut [23] (fun v23 wc => ∃ (kq : Nat) (x23_3 : Bool), v23 = .bool x23_3 ∧ Aside0 (marquetrylaw20_LevelsBack.j0 kq a0 l1 l2 x23_3 = some r) ∧ Aside0 (kq ≤ k) ∧ Aside0 (Below w.heap.size w wc))
 case first =>
  have H := HC4.out
  clear HC4
  by_cases c5 : (l1.length : Int) > 400
  ·rw [if_pos c5] at H
   have c5b0 : decide (400 < (l1.length : Int)) = true := decide_eq_true c5
   have c5b1 : decide (400 < l1.length) = true := decide_eq_true (by omega)
   clear c5
   (first | rw [c5b0] | (simp only [i64_w, i32_w]; rw [c5b0]) | skip)
   have H' := Aside0.mk H
   clear H
   go_wp2
   go_meet
   case rel => exact ⟨_, (true), (by first | rfl | (simp; done) | (simp [*]; done)), H', ⟨by first | omega | exact Nat.le_refl _⟩, ⟨by repeat (first | (with_reducible first | exact HB.out | apply below_alloc | apply pw_below_drewN | apply below_drew1) | exact HB.out)⟩⟩
  ·rw [if_neg c5] at H
   have c5b0 : decide (400 < (l1.length : Int)) = false := decide_eq_false c5
   have c5b1 : decide (400 < l1.length) = false := decide_eq_false (by omega)
   clear c5
   (first | rw [c5b0] | (simp only [i64_w, i32_w]; rw [c5b0]) | skip)
   have H' := Aside0.mk H
   clear H
   go_wp2
   go_meet
   case rel => exact ⟨_, (decide ((l2.length : Int) > 400)), (by first | rfl | (simp; done) | (simp [*]; done)), H', ⟨by first | omega | exact Nat.le_refl _⟩, ⟨by repeat (first | (with_reducible first | exact HB.out | apply below_alloc | apply pw_below_drewN | apply below_drew1) | exact HB.out)⟩⟩
 case rest =>
  clear HC4
  try clear c1
  try clear c2
  try clear p2
  try clear c5
  try clear c5b0
  try clear c5b1
  obtain ⟨kq, x23_3, rfl, HA, HJ3, HB⟩ := hcut
  cases kq with
  | zero => exact absurd HA.out (by simp [marquetrylaw20_LevelsBack.j0])
  | succ kj3 =>
   have H := HA.out
   clear HA
   simp only [marquetrylaw20_LevelsBack.j0] at H
   by_cases c6 : x23_3 = true
   ·subst c6
    have H1 : (some true) = some r := by rw [if_pos rfl] at H; exact H
    clear H
    have H := H1
    clear H1
    obtain rfl := Option.some.inj H
    go_wp2
    go_ret
    exact ⟨by first | rfl | (simp [errW_none, errW_some] <;> rfl) | (simp [*, errW_none, errW_some] <;> rfl), by repeat (first | (with_reducible first | exact HB.out | apply below_alloc | apply pw_below_drewN | apply below_drew1) | exact HB.out)⟩
   ·replace c6 := Bool.eq_false_iff.mpr c6
    subst c6
    have H1 : ((levels_Write.f kj3 a0 l1).bind fun bt520 => ((levels_Framed.f kj3 a0 l1).bind fun bt524 => (if bt520.2 = 0 then (marquetrylaw20_LevelsBack.j1 kj3 a0 l1 l2 bt520.1 bt520.2 bt524.1 bt524.2 (bt524.2 != 0)) else (marquetrylaw20_LevelsBack.j1 kj3 a0 l1 l2 bt520.1 bt520.2 bt524.1 bt524.2 true)))) = some r := by rw [if_neg (show ¬ (false = true) by decide)] at H; exact H
    clear H
    have H := H1
    clear H1
    replace H := Option.bind_eq_some_iff.mp H
    obtain ⟨⟨t520, t521⟩, A70, H⟩ := H
    replace H : ((levels_Framed.f kj3 a0 l1).bind fun bt524 => (if t521 = 0 then (marquetrylaw20_LevelsBack.j1 kj3 a0 l1 l2 t520 t521 bt524.1 bt524.2 (bt524.2 != 0)) else (marquetrylaw20_LevelsBack.j1 kj3 a0 l1 l2 t520 t521 bt524.1 bt524.2 true))) = some r := H
    have A7 := Aside0.mk A70
    clear A70
    replace H := Option.bind_eq_some_iff.mp H
    obtain ⟨⟨t524, t525⟩, A80, H⟩ := H
    replace H : (if t521 = 0 then (marquetrylaw20_LevelsBack.j1 kj3 a0 l1 l2 t520 t521 t524 t525 (t525 != 0)) else (marquetrylaw20_LevelsBack.j1 kj3 a0 l1 l2 t520 t521 t524 t525 true)) = some r := H
    have A8 := Aside0.mk A80
    clear A80
    have HC9 := Aside0.mk H
    clear H
    go_upto_region 5 with (first | ((with_reducible refine gate_callee (f := 23) rfl ?_); refine goesL_ (some 27) rfl rfl Try.func23 (by kernel_rfl) rfl #[.int .i64 a0, .slice A1 l1.length c1] rfl (by (try simp only [List.map_toArray, List.map_cons, List.map_nil]); first | done | rfl | (simp only [List.length_drop, List.length_take]; rfl)) ?_; (with_reducible refine (levels_Write.calls kj3 a0 _ _ l1 t520 t521 _ ?side1 ?side2 A7.out).mono ?_); (case side1 => repeat (first | exact (Kd.C_below HR1.out HB.out) | (with_reducible refine Kd.C_alloc ?_ _) | (with_reducible refine Kd.C_drewN ?_ _) | (with_reducible refine Kd.C_drew ?_))); (case side2 => exact HC1.out); rintro e w10 ⟨v522, rfl, ho0, hb⟩; refine ⟨_, rfl, ?_⟩; have n0_ := Aside0.mk (Kd.R_lower ho0 (below_size (by repeat (first | (with_reducible first | exact HB.out | apply below_alloc | apply pw_below_drewN | apply below_drew1) | exact HB.out)))); have n1_ := Aside0.mk (below_step (by repeat (first | (with_reducible first | exact HB.out | apply below_alloc | apply pw_below_drewN | apply below_drew1) | exact HB.out)) hb); clear HB; have HO523 := n0_; have HB := n1_; clear n0_ n1_; (try clear hb); (try clear hb2); (try clear hk); (try clear hi); (try clear ho0)) | ((with_reducible refine gate_callee (f := 25) rfl ?_); refine goesL_ (some 33) rfl rfl Try.func25 (by kernel_rfl) rfl #[.int .i64 a0, .slice A1 l1.length c1] rfl (by (try simp only [List.map_toArray, List.map_cons, List.map_nil]); first | done | rfl | (simp only [List.length_drop, List.length_take]; rfl)) ?_; (with_reducible refine (levels_Framed.calls kj3 a0 _ _ l1 t524 t525 _ ?side1 ?side2 A8.out).mono ?_); (case side1 => repeat (first | exact (Kd.C_below HR1.out HB.out) | (with_reducible refine Kd.C_alloc ?_ _) | (with_reducible refine Kd.C_drewN ?_ _) | (with_reducible refine Kd.C_drew ?_))); (case side2 => exact HC1.out); rintro e w11 ⟨v526, rfl, ho0, hb⟩; refine ⟨_, rfl, ?_⟩; have n0_ := Aside0.mk (Kd.R_elder' (by (with_reducible repeat (first | apply Kd.R_alloc | apply Kd.R_drewN | apply Kd.R_drew)); exact HO523.out) (Kd.R_base ho0) hb); have n1_ := Aside0.mk (Kd.R_lower (Kd.R_new' ho0 (Kd.R_lt (by (with_reducible repeat (first | apply Kd.R_alloc | apply Kd.R_drewN | apply Kd.R_drew)); exact HO523.out))) (below_size (by repeat (first | (with_reducible first | exact HB.out | apply below_alloc | apply pw_below_drewN | apply below_drew1) | exact HB.out)))); have n2_ := Aside0.mk (below_step (by repeat (first | (with_reducible first | exact HB.out | apply below_alloc | apply pw_below_drewN | apply below_drew1) | exact HB.out)) hb); clear HO523; clear HB; have HO523 := n0_; have HO527 := n1_; have HB := n2_; clear n0_ n1_ n2_; (try clear hb); (try clear hb2); (try clear hk); (try clear hi); (try clear ho0)))
    (try simp only [Act.put, List.setIfInBounds_toArray, List.set_cons_zero, List.set_cons_succ])
    go_cut [41] (fun v41 wc => ∃ (kq : Nat) (x41_8 : Bool), v41 = .bool x41_8 ∧ Aside0 (marquetrylaw20_LevelsBack.j1 kq a0 l1 l2 t520 t521 t524 t525 x41_8 = some r) ∧ Aside0 (kq ≤ kj3) ∧ Aside0 (Kd.R (Kd.int .u8) 5 wc w.heap.size (fun k_ => some k_ ≠ (v526 : Value).ownBlock) v522 t520) ∧ Aside0 (Kd.R (Kd.int .u8) 5 wc w.heap.size (fun k_ => some k_ ≠ (v522 : Value).ownBlock) v526 t524) ∧ Aside0 (Below w.heap.size w wc))
    case first =>
     have H := HC9.out
     clear HC9
     by_cases c12 : t521 = 0
     ·rw [if_pos c12] at H
      have c12b0 : (t521 == 0) = true := beq_iff_eq.mpr c12
      have c12b1 : (t521 != 0) = false := bne_eq_false_iff_eq.mpr c12
      clear c12
      (first | rw [c12b0] | (simp only [i64_w, i32_w]; rw [c12b0]) | skip)
      have H' := Aside0.mk H
      clear H
      go_wp2
      go_meet
      case rel => exact ⟨_, ((t525 != 0)), (by first | rfl | (simp; done) | (simp [*]; done)), H', ⟨by have := HJ3.out; first | omega | exact Nat.le_refl _⟩, ⟨by (with_reducible repeat (first | apply Kd.R_alloc | apply Kd.R_drewN | apply Kd.R_drew)); exact Kd.R_mono HO523.out (fun _ hk => hk.2)⟩, ⟨by (with_reducible repeat (first | apply Kd.R_alloc | apply Kd.R_drewN | apply Kd.R_drew)); exact Kd.R_mono HO527.out (fun _ hk => hk.2)⟩, ⟨by repeat (first | (with_reducible first | exact HB.out | apply below_alloc | apply pw_below_drewN | apply below_drew1) | exact HB.out)⟩⟩
     ·rw [if_neg c12] at H
      have c12b0 : (t521 == 0) = false := beq_eq_false_iff_ne.mpr c12
      have c12b1 : (t521 != 0) = true := bne_iff_ne.mpr c12
      (first | rw [c12b0] | (simp only [i64_w, i32_w]; rw [c12b0]) | skip)
      have H' := Aside0.mk H
      clear H
      go_wp2
      go_meet
      case rel => exact ⟨_, (true), (by first | rfl | (simp; done) | (simp [*]; done)), H', ⟨by have := HJ3.out; first | omega | exact Nat.le_refl _⟩, ⟨by (with_reducible repeat (first | apply Kd.R_alloc | apply Kd.R_drewN | apply Kd.R_drew)); exact Kd.R_mono HO523.out (fun _ hk => hk.2)⟩, ⟨by (with_reducible repeat (first | apply Kd.R_alloc | apply Kd.R_drewN | apply Kd.R_drew)); exact Kd.R_mono HO527.out (fun _ hk => hk.2)⟩, ⟨by repeat (first | (with_reducible first | exact HB.out | apply below_alloc | apply pw_below_drewN | apply below_drew1) | exact HB.out)⟩⟩
    case rest =>
     clear HC9
     try clear c1
     try clear c2
     try clear p2
     try clear c5
     try clear c5b0
     try clear c5b1
     try clear c6
     try clear c12
     try clear c12b0
     try clear c12b1
     try clear p2
     obtain ⟨kq, x41_8, rfl, HA, HJ8, HO_7, HO_9, HB⟩ := hcut
     cases kq with
     | zero => exact absurd HA.out (by simp [marquetrylaw20_LevelsBack.j1])
     | succ kj8 =>
      have H := HA.out
      clear HA
      simp only [marquetrylaw20_LevelsBack.j1] at H
      by_cases c13 : x41_8 = true
      ·subst c13
       have H1 : (if t521 = t525 then (some ((wrap64 ((t520.length : Int) + (t524.length : Int))) == 0)) else (some false)) = some r := by rw [if_pos rfl] at H; exact H
       clear H
       have H := H1
       clear H1
       by_cases c14 : t521 = t525
       ·rw [if_pos c14] at H
        have c14b0 : (t521 == t525) = true := beq_iff_eq.mpr c14
        have c14b1 : (t521 != t525) = false := bne_eq_false_iff_eq.mpr c14
        clear c14
        obtain rfl := Option.some.inj H
        obtain ⟨Ao15, co15, eo15⟩ := Kd.R_slice HO_7.out
        subst eo15
        obtain ⟨Ao16, co16, eo16⟩ := Kd.R_slice HO_9.out
        subst eo16
        go_wp2
        go_ret
        exact ⟨by first | rfl | (simp [errW_none, errW_some] <;> rfl) | (simp [*, errW_none, errW_some] <;> rfl), by repeat (first | (with_reducible first | exact HB.out | apply below_alloc | apply pw_below_drewN | apply below_drew1) | exact HB.out)⟩
       ·rw [if_neg c14] at H
        have c14b0 : (t521 == t525) = false := beq_eq_false_iff_ne.mpr c14
        have c14b1 : (t521 != t525) = true := bne_iff_ne.mpr c14
        obtain rfl := Option.some.inj H
        go_wp2
        go_ret
        exact ⟨by first | rfl | (simp [errW_none, errW_some] <;> rfl) | (simp [*, errW_none, errW_some] <;> rfl), by repeat (first | (with_reducible first | exact HB.out | apply below_alloc | apply pw_below_drewN | apply below_drew1) | exact HB.out)⟩
      ·replace c13 := Bool.eq_false_iff.mpr c13
       subst c13
       have H1 : ((levels_Read.f kj8 t520 a0 (l1.length : Int)).bind fun bt528 => (if ([] : List Int).length + t524.length < 140737488355328 then ((some (([] : List Int) ++ t524 : List Int)).bind fun y532 => (if y532.length + l2.length < 140737488355328 then ((levels_Unframe.f kj8 (y532 ++ l2) a0 (l1.length : Int)).bind fun bt538 => (if bt528.2 = 0 then (if bt538.2.2 = 0 then ((marquetryref11_SameInts.f kj8 bt528.1 l1).bind fun t543 => (if t543 = true then ((marquetryref11_SameInts.f kj8 bt538.1 l1).bind fun t544 => (if t544 = true then (some (bt538.2.1 == (t524.length : Int))) else (some false))) else (some false))) else (some false)) else (some false))) else (none))) else (none))) = some r := by rw [if_neg (show ¬ (false = true) by decide)] at H; exact H
       clear H
       have H := H1
       clear H1
       replace H := Option.bind_eq_some_iff.mp H
       obtain ⟨⟨t528, t529⟩, A170, H⟩ := H
       replace H : (if ([] : List Int).length + t524.length < 140737488355328 then ((some (([] : List Int) ++ t524 : List Int)).bind fun y532 => (if y532.length + l2.length < 140737488355328 then ((levels_Unframe.f kj8 (y532 ++ l2) a0 (l1.length : Int)).bind fun bt538 => (if t529 = 0 then (if bt538.2.2 = 0 then ((marquetryref11_SameInts.f kj8 t528 l1).bind fun t543 => (if t543 = true then ((marquetryref11_SameInts.f kj8 bt538.1 l1).bind fun t544 => (if t544 = true then (some (bt538.2.1 == (t524.length : Int))) else (some false))) else (some false))) else (some false)) else (some false))) else (none))) else (none)) = some r := H
       have A17 := Aside0.mk A170
       clear A170
       by_cases c18 : ([] : List Int).length + t524.length < 140737488355328
       ·rw [if_pos c18] at H
        have LMc18 := Aside0.mk c18
        clear c18
        obtain ⟨y532, hy532⟩ : ∃ y_ : List Int, y_ = (([] : List Int) ++ t524) := ⟨_, rfl⟩
        replace H : (if y532.length + l2.length < 140737488355328 then ((levels_Unframe.f kj8 (y532 ++ l2) a0 (l1.length : Int)).bind fun bt538 => (if t529 = 0 then (if bt538.2.2 = 0 then ((marquetryref11_SameInts.f kj8 t528 l1).bind fun t543 => (if t543 = true then ((marquetryref11_SameInts.f kj8 bt538.1 l1).bind fun t544 => (if t544 = true then (some (bt538.2.1 == (t524.length : Int))) else (some false))) else (some false))) else (some false)) else (some false))) else (none)) = some r := by first | (rw [hy532]; with_reducible exact H) | (have H2_ := (Option.bind_some _ _).symm.trans H; rw [hy532]; with_reducible exact H2_) | (have H2_ := (Option.bind_some _ _).symm.trans H; with_reducible exact H2_) | with_reducible exact H | (rw [hy532]; exact H) | exact H
        have Ny532 := Aside0.mk hy532
        clear hy532
        by_cases c19 : y532.length + l2.length < 140737488355328
        ·rw [if_pos c19] at H
         have LMc19 := Aside0.mk c19
         clear c19
         obtain ⟨y535, hy535⟩ : ∃ y_ : List Int, y_ = (y532 ++ l2) := ⟨_, rfl⟩
         replace H : ((levels_Unframe.f kj8 y535 a0 (l1.length : Int)).bind fun bt538 => (if t529 = 0 then (if bt538.2.2 = 0 then ((marquetryref11_SameInts.f kj8 t528 l1).bind fun t543 => (if t543 = true then ((marquetryref11_SameInts.f kj8 bt538.1 l1).bind fun t544 => (if t544 = true then (some (bt538.2.1 == (t524.length : Int))) else (some false))) else (some false))) else (some false)) else (some false))) = some r := by first | (rw [hy535]; with_reducible exact H) | (have H2_ := (Option.bind_some _ _).symm.trans H; rw [hy535]; with_reducible exact H2_) | (have H2_ := (Option.bind_some _ _).symm.trans H; with_reducible exact H2_) | with_reducible exact H | (rw [hy535]; exact H) | exact H
         have Ny535 := Aside0.mk hy535
         clear hy535
         replace H := Option.bind_eq_some_iff.mp H
         obtain ⟨⟨t538, t539, t540⟩, A200, H⟩ := H
         replace H : (if t529 = 0 then (if t540 = 0 then ((marquetryref11_SameInts.f kj8 t528 l1).bind fun t543 => (if t543 = true then ((marquetryref11_SameInts.f kj8 t538 l1).bind fun t544 => (if t544 = true then (some (t539 == (t524.length : Int))) else (some false))) else (some false))) else (some false)) else (some false)) = some r := H
         have A20 := Aside0.mk A200
         clear A200
         by_cases c21 : t529 = 0
         ·rw [if_pos c21] at H
          have c21b0 : (t529 == 0) = true := beq_iff_eq.mpr c21
          have c21b1 : (t529 != 0) = false := bne_eq_false_iff_eq.mpr c21
          clear c21
          by_cases c22 : t540 = 0
          ·rw [if_pos c22] at H
           have c22b0 : (t540 == 0) = true := beq_iff_eq.mpr c22
           have c22b1 : (t540 != 0) = false := bne_eq_false_iff_eq.mpr c22
           clear c22
           replace H := Option.bind_eq_some_iff.mp H
           obtain ⟨t543, A230, H⟩ := H
           replace H : (if t543 = true then ((marquetryref11_SameInts.f kj8 t538 l1).bind fun t544 => (if t544 = true then (some (t539 == (t524.length : Int))) else (some false))) else (some false)) = some r := H
           have A23 := Aside0.mk A230
           clear A230
           by_cases c24 : t543 = true
           ·subst c24
            have H1 : ((marquetryref11_SameInts.f kj8 t538 l1).bind fun t544 => (if t544 = true then (some (t539 == (t524.length : Int))) else (some false))) = some r := by rw [if_pos rfl] at H; exact H
            clear H
            have H := H1
            clear H1
            replace H := Option.bind_eq_some_iff.mp H
            obtain ⟨t544, A250, H⟩ := H
            replace H : (if t544 = true then (some (t539 == (t524.length : Int))) else (some false)) = some r := H
            have A25 := Aside0.mk A250
            clear A250
            by_cases c26 : t544 = true
            ·subst c26
             have H1 : (some (t539 == (t524.length : Int))) = some r := by rw [if_pos rfl] at H; exact H
             clear H
             have H := H1
             clear H1
             obtain rfl := Option.some.inj H
             obtain ⟨Ao27, co27, eo27⟩ := Kd.R_slice HO_7.out
             subst eo27
             go_wp2_with (first | ((with_reducible refine gate_callee (f := 27) rfl ?_); refine goesL_ (some 58) rfl rfl Try.func27 (by kernel_rfl) rfl #[.slice Ao27 t520.length co27, .int .i64 a0, .int .i64 (l1.length : Int)] rfl (by (try simp only [List.map_toArray, List.map_cons, List.map_nil]); first | done | rfl | (simp only [List.length_drop, List.length_take]; rfl)) ?_; (with_reducible refine (levels_Read.calls kj8 _ _ t520 a0 (l1.length : Int) t528 t529 _ ?side1 ?side2 A17.out).mono ?_); (case side1 => repeat (first | exact (Kd.R_reads' HO_7.out).2.2 | (with_reducible refine Kd.C_alloc ?_ _) | (with_reducible refine Kd.C_drewN ?_ _) | (with_reducible refine Kd.C_drew ?_))); (case side2 => exact (Kd.R_reads' HO_7.out).2.1); rintro e w28 ⟨v530, rfl, ho0, hb⟩; refine ⟨_, rfl, ?_⟩; have n0_ := Aside0.mk (Kd.R_below (by (with_reducible repeat (first | apply Kd.R_alloc | apply Kd.R_drewN | apply Kd.R_drew)); exact HO_7.out) hb); have n1_ := Aside0.mk (Kd.R_below (by (with_reducible repeat (first | apply Kd.R_alloc | apply Kd.R_drewN | apply Kd.R_drew)); exact HO_9.out) hb); have n2_ := Aside0.mk (Kd.R_lower ho0 (below_size (by repeat (first | (with_reducible first | exact HB.out | apply below_alloc | apply pw_below_drewN | apply below_drew1) | exact HB.out)))); have n3_ := Aside0.mk (below_step (by repeat (first | (with_reducible first | exact HB.out | apply below_alloc | apply pw_below_drewN | apply below_drew1) | exact HB.out)) hb); clear HO_7; clear HO_9; clear HB; have HO_7 := n0_; have HO_9 := n1_; have HO531 := n2_; have HB := n3_; clear n0_ n1_ n2_ n3_; (try clear hb); (try clear hb2); (try clear hk); (try clear hi); (try clear ho0); obtain ⟨Ao30, co30, eo30⟩ := Kd.R_slice HO_9.out; subst eo30) | ((with_reducible refine gate_builtin (b := .append) (xs := #[.const (.slice none 0 0), .tmp 62]) rfl ?_); (try (refine gate_guard (by rfl) ?_; dsimp only)); at_builtin; refine Kd.R_append_rows (Kd.int .u8) (w0 := w) w.heap.size rfl (.const (.slice none 0 0)) (.tmp 62) 37 5 (.int .u8 0) 1 rfl Try.underlying37 info5 rfl (by decide) (by omega) (.slice none 0 0) ([] : List Int) t524 _ _ _ (fun k_ => some k_ ≠ (.slice Ao27 t520.length co27 : Value).ownBlock ∧ some k_ ≠ (.slice Ao30 t524.length co30 : Value).ownBlock) (fun _ => False) rfl rfl ?aO ?aR (fun _ _ h => h) (fun _ h => h.elim) ?aF ?aB ?aS ?aL ?_; (case aR => repeat (first | exact (Kd.R_reads' HO_9.out).2.2 | (with_reducible refine Kd.C_alloc ?_ _) | (with_reducible refine Kd.C_drewN ?_ _) | (with_reducible refine Kd.C_drew ?_))); (case aB => exact (by repeat (first | (with_reducible first | exact HB.out | apply below_alloc | apply pw_below_drewN | apply below_drew1) | exact HB.out))); (case aF => exact (fun k_ hk => ⟨Kd.fresh' (Kd.R_lt (by (with_reducible repeat (first | apply Kd.R_alloc | apply Kd.R_drewN | apply Kd.R_drew)); exact HO_7.out)) k_ hk, Kd.fresh' (Kd.R_lt (by (with_reducible repeat (first | apply Kd.R_alloc | apply Kd.R_drewN | apply Kd.R_drew)); exact HO_9.out)) k_ hk⟩)); (case aO => exact ((Kd.R_nil _ _ _ _ (fun k_ => some k_ ≠ (.slice Ao27 t520.length co27 : Value).ownBlock ∧ some k_ ≠ (.slice Ao30 t524.length co30 : Value).ownBlock)))); (case aS => exact (below_size (by repeat (first | (with_reducible first | exact HB.out | apply below_alloc | apply pw_below_drewN | apply below_drew1) | exact HB.out)))); (case aL => have := LMc18.out; omega); intro v533 w29 ho hb hg hat; rw [← Ny532.out] at ho; have n0_ := Aside0.mk (Kd.R_after (Kd.R_apart_nil (by (with_reducible repeat (first | apply Kd.R_alloc | apply Kd.R_drewN | apply Kd.R_drew)); exact HO_7.out)) hg hat); have n1_ := Aside0.mk (Kd.R_after (Kd.R_apart_nil (by (with_reducible repeat (first | apply Kd.R_alloc | apply Kd.R_drewN | apply Kd.R_drew)); exact HO_9.out)) hg hat); have n2_ := Aside0.mk (Kd.R_grown (by (with_reducible repeat (first | apply Kd.R_alloc | apply Kd.R_drewN | apply Kd.R_drew)); exact HO531.out) hg (fun _ _ => by simp [Value.ownBlock])); have n3_ := Aside0.mk (hb); have n4_ := Aside0.mk (ho); clear HO_7; clear HO_9; clear HO531; clear HB; have HO_7 := n0_; have HO_9 := n1_; have HO531 := n2_; have HB := n3_; have HO534 := n4_; clear n0_ n1_ n2_ n3_ n4_; clear ho hb hg hat) | ((with_reducible refine gate_builtin (b := .append) (xs := #[.tmp 63, .tmp 64]) rfl ?_); (try (refine gate_guard (by rfl) ?_; dsimp only)); at_builtin; refine Kd.R_append_rows (Kd.int .u8) (w0 := w) w.heap.size rfl (.tmp 63) (.tmp 64) 37 5 (.int .u8 0) 1 rfl Try.underlying37 info5 rfl (by decide) (by omega) v533 y532 l2 _ _ _ (fun k_ => some k_ ≠ (.slice Ao27 t520.length co27 : Value).ownBlock ∧ some k_ ≠ (.slice Ao30 t524.length co30 : Value).ownBlock) (fun _ => False) rfl rfl ?aO ?aR (fun _ _ h => h) (fun _ h => h.elim) ?aF ?aB ?aS ?aL ?_; (case aR => repeat (first | exact (Kd.C_below HR2.out HB.out) | (with_reducible refine Kd.C_alloc ?_ _) | (with_reducible refine Kd.C_drewN ?_ _) | (with_reducible refine Kd.C_drew ?_))); (case aB => exact (by repeat (first | (with_reducible first | exact HB.out | apply below_alloc | apply pw_below_drewN | apply below_drew1) | exact HB.out))); (case aF => exact (fun k_ hk => ⟨Kd.fresh' (Kd.R_lt (by (with_reducible repeat (first | apply Kd.R_alloc | apply Kd.R_drewN | apply Kd.R_drew)); exact HO_7.out)) k_ hk, Kd.fresh' (Kd.R_lt (by (with_reducible repeat (first | apply Kd.R_alloc | apply Kd.R_drewN | apply Kd.R_drew)); exact HO_9.out)) k_ hk⟩)); (case aO => exact (by (with_reducible repeat (first | apply Kd.R_alloc | apply Kd.R_drewN | apply Kd.R_drew)); exact HO534.out)); (case aS => exact (below_size (by repeat (first | (with_reducible first | exact HB.out | apply below_alloc | apply pw_below_drewN | apply below_drew1) | exact HB.out)))); (case aL => have := LMc19.out; omega); intro v536 w31 ho hb hg hat; rw [← Ny535.out] at ho; have n0_ := Aside0.mk (Kd.R_after (ok := (fun k_ => some k_ ≠ (.slice Ao30 t524.length co30 : Value).ownBlock)) (by (with_reducible repeat (first | apply Kd.R_alloc | apply Kd.R_drewN | apply Kd.R_drew)); exact HO_7.out) hg hat); have n1_ := Aside0.mk (Kd.R_after (ok := (fun k_ => some k_ ≠ (.slice Ao27 t520.length co27 : Value).ownBlock)) (by (with_reducible repeat (first | apply Kd.R_alloc | apply Kd.R_drewN | apply Kd.R_drew)); exact HO_9.out) hg hat); have n2_ := Aside0.mk (Kd.R_over' (by (with_reducible repeat (first | apply Kd.R_alloc | apply Kd.R_drewN | apply Kd.R_drew)); exact HO531.out) (Kd.R_typed (by (with_reducible repeat (first | apply Kd.R_alloc | apply Kd.R_drewN | apply Kd.R_drew)); exact HO534.out)) (by decide) hg); have n3_ := Aside0.mk (hb); have n4_ := Aside0.mk (ho); clear HO_7; clear HO_9; clear HO531; clear HB; clear HO534; have HO_7 := n0_; have HO_9 := n1_; have HO531 := n2_; have HB := n3_; have HO537 := n4_; clear n0_ n1_ n2_ n3_ n4_; clear ho hb hg hat; obtain ⟨Ao32, co32, eo32⟩ := Kd.R_slice HO537.out; subst eo32) | ((with_reducible refine gate_callee (f := 29) rfl ?_); refine goesL_ (some 69) rfl rfl Try.func29 (by kernel_rfl) rfl #[.slice Ao32 y535.length co32, .int .i64 a0, .int .i64 (l1.length : Int)] rfl (by (try simp only [List.map_toArray, List.map_cons, List.map_nil]); first | done | rfl | (simp only [List.length_drop, List.length_take]; rfl)) ?_; (with_reducible refine (levels_Unframe.calls kj8 _ _ y535 a0 (l1.length : Int) t538 t539 t540 _ ?side1 ?side2 A20.out).mono ?_); (case side1 => repeat (first | exact (Kd.R_reads' HO537.out).2.2 | (with_reducible refine Kd.C_alloc ?_ _) | (with_reducible refine Kd.C_drewN ?_ _) | (with_reducible refine Kd.C_drew ?_))); (case side2 => exact (Kd.R_reads' HO537.out).2.1); rintro e w33 ⟨v541, rfl, ho0, hb⟩; refine ⟨_, rfl, ?_⟩; have n0_ := Aside0.mk (Kd.R_below (by (with_reducible repeat (first | apply Kd.R_alloc | apply Kd.R_drewN | apply Kd.R_drew)); exact HO_7.out) hb); have n1_ := Aside0.mk (Kd.R_below (by (with_reducible repeat (first | apply Kd.R_alloc | apply Kd.R_drewN | apply Kd.R_drew)); exact HO_9.out) hb); have n2_ := Aside0.mk (Kd.R_elder' (by (with_reducible repeat (first | apply Kd.R_alloc | apply Kd.R_drewN | apply Kd.R_drew)); exact HO531.out) (Kd.R_base ho0) hb); have n3_ := Aside0.mk (Kd.R_below (by (with_reducible repeat (first | apply Kd.R_alloc | apply Kd.R_drewN | apply Kd.R_drew)); exact HO537.out) hb); have n4_ := Aside0.mk (Kd.R_lower (Kd.R_new' ho0 (Kd.R_lt (by (with_reducible repeat (first | apply Kd.R_alloc | apply Kd.R_drewN | apply Kd.R_drew)); exact HO531.out))) (below_size (by repeat (first | (with_reducible first | exact HB.out | apply below_alloc | apply pw_below_drewN | apply below_drew1) | exact HB.out)))); have n5_ := Aside0.mk (below_step (by repeat (first | (with_reducible first | exact HB.out | apply below_alloc | apply pw_below_drewN | apply below_drew1) | exact HB.out)) hb); clear HO_7; clear HO_9; clear HO531; clear HO537; clear HB; have HO_7 := n0_; have HO_9 := n1_; have HO531 := n2_; have HO537 := n3_; have HO542 := n4_; have HB := n5_; clear n0_ n1_ n2_ n3_ n4_ n5_; (try clear hb); (try clear hb2); (try clear hk); (try clear hi); (try clear ho0); obtain ⟨Ao34, co34, eo34⟩ := Kd.R_slice HO531.out; subst eo34) | (go_at_call 20; (with_reducible refine (marquetryref11_SameInts.calls kj8 _ _ t528 _ _ l1 true _ ?side1 ?side2 ?side3 ?side4 A23.out).mono ?_); (case side1 => repeat (first | exact (Kd.R_reads' HO531.out).2.2 | (with_reducible refine Kd.C_alloc ?_ _) | (with_reducible refine Kd.C_drewN ?_ _) | (with_reducible refine Kd.C_drew ?_))); (case side2 => exact (Kd.R_reads' HO531.out).2.1); (case side3 => repeat (first | exact (Kd.C_below HR1.out HB.out) | (with_reducible refine Kd.C_alloc ?_ _) | (with_reducible refine Kd.C_drewN ?_ _) | (with_reducible refine Kd.C_drew ?_))); (case side4 => exact HC1.out); rintro e w' ⟨rfl, ⟨nd, rfl⟩⟩; obtain ⟨Ao35, co35, eo35⟩ := Kd.R_slice HO542.out; subst eo35) | (go_at_call 20; (with_reducible refine (marquetryref11_SameInts.calls kj8 _ _ t538 _ _ l1 true _ ?side1 ?side2 ?side3 ?side4 A25.out).mono ?_); (case side1 => repeat (first | exact (Kd.R_reads' HO542.out).2.2 | (with_reducible refine Kd.C_alloc ?_ _) | (with_reducible refine Kd.C_drewN ?_ _) | (with_reducible refine Kd.C_drew ?_))); (case side2 => exact (Kd.R_reads' HO542.out).2.1); (case side3 => repeat (first | exact (Kd.C_below HR1.out (by repeat (first | (with_reducible first | exact HB.out | apply below_alloc | apply pw_below_drewN | apply below_drew1) | exact HB.out))) | (with_reducible refine Kd.C_alloc ?_ _) | (with_reducible refine Kd.C_drewN ?_ _) | (with_reducible refine Kd.C_drew ?_))); (case side4 => exact HC1.out); rintro e w' ⟨rfl, ⟨nd, rfl⟩⟩))
             go_ret
             exact ⟨by first | rfl | (simp [errW_none, errW_some] <;> rfl) | (simp [*, errW_none, errW_some] <;> rfl), by repeat (first | (with_reducible first | exact HB.out | apply below_alloc | apply pw_below_drewN | apply below_drew1) | exact HB.out)⟩
            ·replace c26 := Bool.eq_false_iff.mpr c26
             subst c26
             have H1 : (some false) = some r := by rw [if_neg (show ¬ (false = true) by decide)] at H; exact H
             clear H
             have H := H1
             clear H1
             obtain rfl := Option.some.inj H
             obtain ⟨Ao36, co36, eo36⟩ := Kd.R_slice HO_7.out
             subst eo36
             go_wp2_with (first | ((with_reducible refine gate_callee (f := 27) rfl ?_); refine goesL_ (some 58) rfl rfl Try.func27 (by kernel_rfl) rfl #[.slice Ao36 t520.length co36, .int .i64 a0, .int .i64 (l1.length : Int)] rfl (by (try simp only [List.map_toArray, List.map_cons, List.map_nil]); first | done | rfl | (simp only [List.length_drop, List.length_take]; rfl)) ?_; (with_reducible refine (levels_Read.calls kj8 _ _ t520 a0 (l1.length : Int) t528 t529 _ ?side1 ?side2 A17.out).mono ?_); (case side1 => repeat (first | exact (Kd.R_reads' HO_7.out).2.2 | (with_reducible refine Kd.C_alloc ?_ _) | (with_reducible refine Kd.C_drewN ?_ _) | (with_reducible refine Kd.C_drew ?_))); (case side2 => exact (Kd.R_reads' HO_7.out).2.1); rintro e w37 ⟨v530, rfl, ho0, hb⟩; refine ⟨_, rfl, ?_⟩; have n0_ := Aside0.mk (Kd.R_below (by (with_reducible repeat (first | apply Kd.R_alloc | apply Kd.R_drewN | apply Kd.R_drew)); exact HO_7.out) hb); have n1_ := Aside0.mk (Kd.R_below (by (with_reducible repeat (first | apply Kd.R_alloc | apply Kd.R_drewN | apply Kd.R_drew)); exact HO_9.out) hb); have n2_ := Aside0.mk (Kd.R_lower ho0 (below_size (by repeat (first | (with_reducible first | exact HB.out | apply below_alloc | apply pw_below_drewN | apply below_drew1) | exact HB.out)))); have n3_ := Aside0.mk (below_step (by repeat (first | (with_reducible first | exact HB.out | apply below_alloc | apply pw_below_drewN | apply below_drew1) | exact HB.out)) hb); clear HO_7; clear HO_9; clear HB; have HO_7 := n0_; have HO_9 := n1_; have HO531 := n2_; have HB := n3_; clear n0_ n1_ n2_ n3_; (try clear hb); (try clear hb2); (try clear hk); (try clear hi); (try clear ho0); obtain ⟨Ao39, co39, eo39⟩ := Kd.R_slice HO_9.out; subst eo39) | ((with_reducible refine gate_builtin (b := .append) (xs := #[.const (.slice none 0 0), .tmp 62]) rfl ?_); (try (refine gate_guard (by rfl) ?_; dsimp only)); at_builtin; refine Kd.R_append_rows (Kd.int .u8) (w0 := w) w.heap.size rfl (.const (.slice none 0 0)) (.tmp 62) 37 5 (.int .u8 0) 1 rfl Try.underlying37 info5 rfl (by decide) (by omega) (.slice none 0 0) ([] : List Int) t524 _ _ _ (fun k_ => some k_ ≠ (.slice Ao36 t520.length co36 : Value).ownBlock ∧ some k_ ≠ (.slice Ao39 t524.length co39 : Value).ownBlock) (fun _ => False) rfl rfl ?aO ?aR (fun _ _ h => h) (fun _ h => h.elim) ?aF ?aB ?aS ?aL ?_; (case aR => repeat (first | exact (Kd.R_reads' HO_9.out).2.2 | (with_reducible refine Kd.C_alloc ?_ _) | (with_reducible refine Kd.C_drewN ?_ _) | (with_reducible refine Kd.C_drew ?_))); (case aB => exact (by repeat (first | (with_reducible first | exact HB.out | apply below_alloc | apply pw_below_drewN | apply below_drew1) | exact HB.out))); (case aF => exact (fun k_ hk => ⟨Kd.fresh' (Kd.R_lt (by (with_reducible repeat (first | apply Kd.R_alloc | apply Kd.R_drewN | apply Kd.R_drew)); exact HO_7.out)) k_ hk, Kd.fresh' (Kd.R_lt (by (with_reducible repeat (first | apply Kd.R_alloc | apply Kd.R_drewN | apply Kd.R_drew)); exact HO_9.out)) k_ hk⟩)); (case aO => exact ((Kd.R_nil _ _ _ _ (fun k_ => some k_ ≠ (.slice Ao36 t520.length co36 : Value).ownBlock ∧ some k_ ≠ (.slice Ao39 t524.length co39 : Value).ownBlock)))); (case aS => exact (below_size (by repeat (first | (with_reducible first | exact HB.out | apply below_alloc | apply pw_below_drewN | apply below_drew1) | exact HB.out)))); (case aL => have := LMc18.out; omega); intro v533 w38 ho hb hg hat; rw [← Ny532.out] at ho; have n0_ := Aside0.mk (Kd.R_after (Kd.R_apart_nil (by (with_reducible repeat (first | apply Kd.R_alloc | apply Kd.R_drewN | apply Kd.R_drew)); exact HO_7.out)) hg hat); have n1_ := Aside0.mk (Kd.R_after (Kd.R_apart_nil (by (with_reducible repeat (first | apply Kd.R_alloc | apply Kd.R_drewN | apply Kd.R_drew)); exact HO_9.out)) hg hat); have n2_ := Aside0.mk (Kd.R_grown (by (with_reducible repeat (first | apply Kd.R_alloc | apply Kd.R_drewN | apply Kd.R_drew)); exact HO531.out) hg (fun _ _ => by simp [Value.ownBlock])); have n3_ := Aside0.mk (hb); have n4_ := Aside0.mk (ho); clear HO_7; clear HO_9; clear HO531; clear HB; have HO_7 := n0_; have HO_9 := n1_; have HO531 := n2_; have HB := n3_; have HO534 := n4_; clear n0_ n1_ n2_ n3_ n4_; clear ho hb hg hat) | ((with_reducible refine gate_builtin (b := .append) (xs := #[.tmp 63, .tmp 64]) rfl ?_); (try (refine gate_guard (by rfl) ?_; dsimp only)); at_builtin; refine Kd.R_append_rows (Kd.int .u8) (w0 := w) w.heap.size rfl (.tmp 63) (.tmp 64) 37 5 (.int .u8 0) 1 rfl Try.underlying37 info5 rfl (by decide) (by omega) v533 y532 l2 _ _ _ (fun k_ => some k_ ≠ (.slice Ao36 t520.length co36 : Value).ownBlock ∧ some k_ ≠ (.slice Ao39 t524.length co39 : Value).ownBlock) (fun _ => False) rfl rfl ?aO ?aR (fun _ _ h => h) (fun _ h => h.elim) ?aF ?aB ?aS ?aL ?_; (case aR => repeat (first | exact (Kd.C_below HR2.out HB.out) | (with_reducible refine Kd.C_alloc ?_ _) | (with_reducible refine Kd.C_drewN ?_ _) | (with_reducible refine Kd.C_drew ?_))); (case aB => exact (by repeat (first | (with_reducible first | exact HB.out | apply below_alloc | apply pw_below_drewN | apply below_drew1) | exact HB.out))); (case aF => exact (fun k_ hk => ⟨Kd.fresh' (Kd.R_lt (by (with_reducible repeat (first | apply Kd.R_alloc | apply Kd.R_drewN | apply Kd.R_drew)); exact HO_7.out)) k_ hk, Kd.fresh' (Kd.R_lt (by (with_reducible repeat (first | apply Kd.R_alloc | apply Kd.R_drewN | apply Kd.R_drew)); exact HO_9.out)) k_ hk⟩)); (case aO => exact (by (with_reducible repeat (first | apply Kd.R_alloc | apply Kd.R_drewN | apply Kd.R_drew)); exact HO534.out)); (case aS => exact (below_size (by repeat (first | (with_reducible first | exact HB.out | apply below_alloc | apply pw_below_drewN | apply below_drew1) | exact HB.out)))); (case aL => have := LMc19.out; omega); intro v536 w40 ho hb hg hat; rw [← Ny535.out] at ho; have n0_ := Aside0.mk (Kd.R_after (ok := (fun k_ => some k_ ≠ (.slice Ao39 t524.length co39 : Value).ownBlock)) (by (with_reducible repeat (first | apply Kd.R_alloc | apply Kd.R_drewN | apply Kd.R_drew)); exact HO_7.out) hg hat); have n1_ := Aside0.mk (Kd.R_after (ok := (fun k_ => some k_ ≠ (.slice Ao36 t520.length co36 : Value).ownBlock)) (by (with_reducible repeat (first | apply Kd.R_alloc | apply Kd.R_drewN | apply Kd.R_drew)); exact HO_9.out) hg hat); have n2_ := Aside0.mk (Kd.R_over' (by (with_reducible repeat (first | apply Kd.R_alloc | apply Kd.R_drewN | apply Kd.R_drew)); exact HO531.out) (Kd.R_typed (by (with_reducible repeat (first | apply Kd.R_alloc | apply Kd.R_drewN | apply Kd.R_drew)); exact HO534.out)) (by decide) hg); have n3_ := Aside0.mk (hb); have n4_ := Aside0.mk (ho); clear HO_7; clear HO_9; clear HO531; clear HB; clear HO534; have HO_7 := n0_; have HO_9 := n1_; have HO531 := n2_; have HB := n3_; have HO537 := n4_; clear n0_ n1_ n2_ n3_ n4_; clear ho hb hg hat; obtain ⟨Ao41, co41, eo41⟩ := Kd.R_slice HO537.out; subst eo41) | ((with_reducible refine gate_callee (f := 29) rfl ?_); refine goesL_ (some 69) rfl rfl Try.func29 (by kernel_rfl) rfl #[.slice Ao41 y535.length co41, .int .i64 a0, .int .i64 (l1.length : Int)] rfl (by (try simp only [List.map_toArray, List.map_cons, List.map_nil]); first | done | rfl | (simp only [List.length_drop, List.length_take]; rfl)) ?_; (with_reducible refine (levels_Unframe.calls kj8 _ _ y535 a0 (l1.length : Int) t538 t539 t540 _ ?side1 ?side2 A20.out).mono ?_); (case side1 => repeat (first | exact (Kd.R_reads' HO537.out).2.2 | (with_reducible refine Kd.C_alloc ?_ _) | (with_reducible refine Kd.C_drewN ?_ _) | (with_reducible refine Kd.C_drew ?_))); (case side2 => exact (Kd.R_reads' HO537.out).2.1); rintro e w42 ⟨v541, rfl, ho0, hb⟩; refine ⟨_, rfl, ?_⟩; have n0_ := Aside0.mk (Kd.R_below (by (with_reducible repeat (first | apply Kd.R_alloc | apply Kd.R_drewN | apply Kd.R_drew)); exact HO_7.out) hb); have n1_ := Aside0.mk (Kd.R_below (by (with_reducible repeat (first | apply Kd.R_alloc | apply Kd.R_drewN | apply Kd.R_drew)); exact HO_9.out) hb); have n2_ := Aside0.mk (Kd.R_elder' (by (with_reducible repeat (first | apply Kd.R_alloc | apply Kd.R_drewN | apply Kd.R_drew)); exact HO531.out) (Kd.R_base ho0) hb); have n3_ := Aside0.mk (Kd.R_below (by (with_reducible repeat (first | apply Kd.R_alloc | apply Kd.R_drewN | apply Kd.R_drew)); exact HO537.out) hb); have n4_ := Aside0.mk (Kd.R_lower (Kd.R_new' ho0 (Kd.R_lt (by (with_reducible repeat (first | apply Kd.R_alloc | apply Kd.R_drewN | apply Kd.R_drew)); exact HO531.out))) (below_size (by repeat (first | (with_reducible first | exact HB.out | apply below_alloc | apply pw_below_drewN | apply below_drew1) | exact HB.out)))); have n5_ := Aside0.mk (below_step (by repeat (first | (with_reducible first | exact HB.out | apply below_alloc | apply pw_below_drewN | apply below_drew1) | exact HB.out)) hb); clear HO_7; clear HO_9; clear HO531; clear HO537; clear HB; have HO_7 := n0_; have HO_9 := n1_; have HO531 := n2_; have HO537 := n3_; have HO542 := n4_; have HB := n5_; clear n0_ n1_ n2_ n3_ n4_ n5_; (try clear hb); (try clear hb2); (try clear hk); (try clear hi); (try clear ho0); obtain ⟨Ao43, co43, eo43⟩ := Kd.R_slice HO531.out; subst eo43) | (go_at_call 20; (with_reducible refine (marquetryref11_SameInts.calls kj8 _ _ t528 _ _ l1 true _ ?side1 ?side2 ?side3 ?side4 A23.out).mono ?_); (case side1 => repeat (first | exact (Kd.R_reads' HO531.out).2.2 | (with_reducible refine Kd.C_alloc ?_ _) | (with_reducible refine Kd.C_drewN ?_ _) | (with_reducible refine Kd.C_drew ?_))); (case side2 => exact (Kd.R_reads' HO531.out).2.1); (case side3 => repeat (first | exact (Kd.C_below HR1.out HB.out) | (with_reducible refine Kd.C_alloc ?_ _) | (with_reducible refine Kd.C_drewN ?_ _) | (with_reducible refine Kd.C_drew ?_))); (case side4 => exact HC1.out); rintro e w' ⟨rfl, ⟨nd, rfl⟩⟩; obtain ⟨Ao44, co44, eo44⟩ := Kd.R_slice HO542.out; subst eo44) | (go_at_call 20; (with_reducible refine (marquetryref11_SameInts.calls kj8 _ _ t538 _ _ l1 false _ ?side1 ?side2 ?side3 ?side4 A25.out).mono ?_); (case side1 => repeat (first | exact (Kd.R_reads' HO542.out).2.2 | (with_reducible refine Kd.C_alloc ?_ _) | (with_reducible refine Kd.C_drewN ?_ _) | (with_reducible refine Kd.C_drew ?_))); (case side2 => exact (Kd.R_reads' HO542.out).2.1); (case side3 => repeat (first | exact (Kd.C_below HR1.out (by repeat (first | (with_reducible first | exact HB.out | apply below_alloc | apply pw_below_drewN | apply below_drew1) | exact HB.out))) | (with_reducible refine Kd.C_alloc ?_ _) | (with_reducible refine Kd.C_drewN ?_ _) | (with_reducible refine Kd.C_drew ?_))); (case side4 => exact HC1.out); rintro e w' ⟨rfl, ⟨nd, rfl⟩⟩))
             go_ret
             exact ⟨by first | rfl | (simp [errW_none, errW_some] <;> rfl) | (simp [*, errW_none, errW_some] <;> rfl), by repeat (first | (with_reducible first | exact HB.out | apply below_alloc | apply pw_below_drewN | apply below_drew1) | exact HB.out)⟩
           ·replace c24 := Bool.eq_false_iff.mpr c24
            subst c24
            have H1 : (some false) = some r := by rw [if_neg (show ¬ (false = true) by decide)] at H; exact H
            clear H
            have H := H1
            clear H1
            obtain rfl := Option.some.inj H
            obtain ⟨Ao45, co45, eo45⟩ := Kd.R_slice HO_7.out
            subst eo45
            go_wp2_with (first | ((with_reducible refine gate_callee (f := 27) rfl ?_); refine goesL_ (some 58) rfl rfl Try.func27 (by kernel_rfl) rfl #[.slice Ao45 t520.length co45, .int .i64 a0, .int .i64 (l1.length : Int)] rfl (by (try simp only [List.map_toArray, List.map_cons, List.map_nil]); first | done | rfl | (simp only [List.length_drop, List.length_take]; rfl)) ?_; (with_reducible refine (levels_Read.calls kj8 _ _ t520 a0 (l1.length : Int) t528 t529 _ ?side1 ?side2 A17.out).mono ?_); (case side1 => repeat (first | exact (Kd.R_reads' HO_7.out).2.2 | (with_reducible refine Kd.C_alloc ?_ _) | (with_reducible refine Kd.C_drewN ?_ _) | (with_reducible refine Kd.C_drew ?_))); (case side2 => exact (Kd.R_reads' HO_7.out).2.1); rintro e w46 ⟨v530, rfl, ho0, hb⟩; refine ⟨_, rfl, ?_⟩; have n0_ := Aside0.mk (Kd.R_below (by (with_reducible repeat (first | apply Kd.R_alloc | apply Kd.R_drewN | apply Kd.R_drew)); exact HO_7.out) hb); have n1_ := Aside0.mk (Kd.R_below (by (with_reducible repeat (first | apply Kd.R_alloc | apply Kd.R_drewN | apply Kd.R_drew)); exact HO_9.out) hb); have n2_ := Aside0.mk (Kd.R_lower ho0 (below_size (by repeat (first | (with_reducible first | exact HB.out | apply below_alloc | apply pw_below_drewN | apply below_drew1) | exact HB.out)))); have n3_ := Aside0.mk (below_step (by repeat (first | (with_reducible first | exact HB.out | apply below_alloc | apply pw_below_drewN | apply below_drew1) | exact HB.out)) hb); clear HO_7; clear HO_9; clear HB; have HO_7 := n0_; have HO_9 := n1_; have HO531 := n2_; have HB := n3_; clear n0_ n1_ n2_ n3_; (try clear hb); (try clear hb2); (try clear hk); (try clear hi); (try clear ho0); obtain ⟨Ao48, co48, eo48⟩ := Kd.R_slice HO_9.out; subst eo48) | ((with_reducible refine gate_builtin (b := .append) (xs := #[.const (.slice none 0 0), .tmp 62]) rfl ?_); (try (refine gate_guard (by rfl) ?_; dsimp only)); at_builtin; refine Kd.R_append_rows (Kd.int .u8) (w0 := w) w.heap.size rfl (.const (.slice none 0 0)) (.tmp 62) 37 5 (.int .u8 0) 1 rfl Try.underlying37 info5 rfl (by decide) (by omega) (.slice none 0 0) ([] : List Int) t524 _ _ _ (fun k_ => some k_ ≠ (.slice Ao45 t520.length co45 : Value).ownBlock ∧ some k_ ≠ (.slice Ao48 t524.length co48 : Value).ownBlock) (fun _ => False) rfl rfl ?aO ?aR (fun _ _ h => h) (fun _ h => h.elim) ?aF ?aB ?aS ?aL ?_; (case aR => repeat (first | exact (Kd.R_reads' HO_9.out).2.2 | (with_reducible refine Kd.C_alloc ?_ _) | (with_reducible refine Kd.C_drewN ?_ _) | (with_reducible refine Kd.C_drew ?_))); (case aB => exact (by repeat (first | (with_reducible first | exact HB.out | apply below_alloc | apply pw_below_drewN | apply below_drew1) | exact HB.out))); (case aF => exact (fun k_ hk => ⟨Kd.fresh' (Kd.R_lt (by (with_reducible repeat (first | apply Kd.R_alloc | apply Kd.R_drewN | apply Kd.R_drew)); exact HO_7.out)) k_ hk, Kd.fresh' (Kd.R_lt (by (with_reducible repeat (first | apply Kd.R_alloc | apply Kd.R_drewN | apply Kd.R_drew)); exact HO_9.out)) k_ hk⟩)); (case aO => exact ((Kd.R_nil _ _ _ _ (fun k_ => some k_ ≠ (.slice Ao45 t520.length co45 : Value).ownBlock ∧ some k_ ≠ (.slice Ao48 t524.length co48 : Value).ownBlock)))); (case aS => exact (below_size (by repeat (first | (with_reducible first | exact HB.out | apply below_alloc | apply pw_below_drewN | apply below_drew1) | exact HB.out)))); (case aL => have := LMc18.out; omega); intro v533 w47 ho hb hg hat; rw [← Ny532.out] at ho; have n0_ := Aside0.mk (Kd.R_after (Kd.R_apart_nil (by (with_reducible repeat (first | apply Kd.R_alloc | apply Kd.R_drewN | apply Kd.R_drew)); exact HO_7.out)) hg hat); have n1_ := Aside0.mk (Kd.R_after (Kd.R_apart_nil (by (with_reducible repeat (first | apply Kd.R_alloc | apply Kd.R_drewN | apply Kd.R_drew)); exact HO_9.out)) hg hat); have n2_ := Aside0.mk (Kd.R_grown (by (with_reducible repeat (first | apply Kd.R_alloc | apply Kd.R_drewN | apply Kd.R_drew)); exact HO531.out) hg (fun _ _ => by simp [Value.ownBlock])); have n3_ := Aside0.mk (hb); have n4_ := Aside0.mk (ho); clear HO_7; clear HO_9; clear HO531; clear HB; have HO_7 := n0_; have HO_9 := n1_; have HO531 := n2_; have HB := n3_; have HO534 := n4_; clear n0_ n1_ n2_ n3_ n4_; clear ho hb hg hat) | ((with_reducible refine gate_builtin (b := .append) (xs := #[.tmp 63, .tmp 64]) rfl ?_); (try (refine gate_guard (by rfl) ?_; dsimp only)); at_builtin; refine Kd.R_append_rows (Kd.int .u8) (w0 := w) w.heap.size rfl (.tmp 63) (.tmp 64) 37 5 (.int .u8 0) 1 rfl Try.underlying37 info5 rfl (by decide) (by omega) v533 y532 l2 _ _ _ (fun k_ => some k_ ≠ (.slice Ao45 t520.length co45 : Value).ownBlock ∧ some k_ ≠ (.slice Ao48 t524.length co48 : Value).ownBlock) (fun _ => False) rfl rfl ?aO ?aR (fun _ _ h => h) (fun _ h => h.elim) ?aF ?aB ?aS ?aL ?_; (case aR => repeat (first | exact (Kd.C_below HR2.out HB.out) | (with_reducible refine Kd.C_alloc ?_ _) | (with_reducible refine Kd.C_drewN ?_ _) | (with_reducible refine Kd.C_drew ?_))); (case aB => exact (by repeat (first | (with_reducible first | exact HB.out | apply below_alloc | apply pw_below_drewN | apply below_drew1) | exact HB.out))); (case aF => exact (fun k_ hk => ⟨Kd.fresh' (Kd.R_lt (by (with_reducible repeat (first | apply Kd.R_alloc | apply Kd.R_drewN | apply Kd.R_drew)); exact HO_7.out)) k_ hk, Kd.fresh' (Kd.R_lt (by (with_reducible repeat (first | apply Kd.R_alloc | apply Kd.R_drewN | apply Kd.R_drew)); exact HO_9.out)) k_ hk⟩)); (case aO => exact (by (with_reducible repeat (first | apply Kd.R_alloc | apply Kd.R_drewN | apply Kd.R_drew)); exact HO534.out)); (case aS => exact (below_size (by repeat (first | (with_reducible first | exact HB.out | apply below_alloc | apply pw_below_drewN | apply below_drew1) | exact HB.out)))); (case aL => have := LMc19.out; omega); intro v536 w49 ho hb hg hat; rw [← Ny535.out] at ho; have n0_ := Aside0.mk (Kd.R_after (ok := (fun k_ => some k_ ≠ (.slice Ao48 t524.length co48 : Value).ownBlock)) (by (with_reducible repeat (first | apply Kd.R_alloc | apply Kd.R_drewN | apply Kd.R_drew)); exact HO_7.out) hg hat); have n1_ := Aside0.mk (Kd.R_after (ok := (fun k_ => some k_ ≠ (.slice Ao45 t520.length co45 : Value).ownBlock)) (by (with_reducible repeat (first | apply Kd.R_alloc | apply Kd.R_drewN | apply Kd.R_drew)); exact HO_9.out) hg hat); have n2_ := Aside0.mk (Kd.R_over' (by (with_reducible repeat (first | apply Kd.R_alloc | apply Kd.R_drewN | apply Kd.R_drew)); exact HO531.out) (Kd.R_typed (by (with_reducible repeat (first | apply Kd.R_alloc | apply Kd.R_drewN | apply Kd.R_drew)); exact HO534.out)) (by decide) hg); have n3_ := Aside0.mk (hb); have n4_ := Aside0.mk (ho); clear HO_7; clear HO_9; clear HO531; clear HB; clear HO534; have HO_7 := n0_; have HO_9 := n1_; have HO531 := n2_; have HB := n3_; have HO537 := n4_; clear n0_ n1_ n2_ n3_ n4_; clear ho hb hg hat; obtain ⟨Ao50, co50, eo50⟩ := Kd.R_slice HO537.out; subst eo50) | ((with_reducible refine gate_callee (f := 29) rfl ?_); refine goesL_ (some 69) rfl rfl Try.func29 (by kernel_rfl) rfl #[.slice Ao50 y535.length co50, .int .i64 a0, .int .i64 (l1.length : Int)] rfl (by (try simp only [List.map_toArray, List.map_cons, List.map_nil]); first | done | rfl | (simp only [List.length_drop, List.length_take]; rfl)) ?_; (with_reducible refine (levels_Unframe.calls kj8 _ _ y535 a0 (l1.length : Int) t538 t539 t540 _ ?side1 ?side2 A20.out).mono ?_); (case side1 => repeat (first | exact (Kd.R_reads' HO537.out).2.2 | (with_reducible refine Kd.C_alloc ?_ _) | (with_reducible refine Kd.C_drewN ?_ _) | (with_reducible refine Kd.C_drew ?_))); (case side2 => exact (Kd.R_reads' HO537.out).2.1); rintro e w51 ⟨v541, rfl, ho0, hb⟩; refine ⟨_, rfl, ?_⟩; have n0_ := Aside0.mk (Kd.R_below (by (with_reducible repeat (first | apply Kd.R_alloc | apply Kd.R_drewN | apply Kd.R_drew)); exact HO_7.out) hb); have n1_ := Aside0.mk (Kd.R_below (by (with_reducible repeat (first | apply Kd.R_alloc | apply Kd.R_drewN | apply Kd.R_drew)); exact HO_9.out) hb); have n2_ := Aside0.mk (Kd.R_elder' (by (with_reducible repeat (first | apply Kd.R_alloc | apply Kd.R_drewN | apply Kd.R_drew)); exact HO531.out) (Kd.R_base ho0) hb); have n3_ := Aside0.mk (Kd.R_below (by (with_reducible repeat (first | apply Kd.R_alloc | apply Kd.R_drewN | apply Kd.R_drew)); exact HO537.out) hb); have n4_ := Aside0.mk (Kd.R_lower (Kd.R_new' ho0 (Kd.R_lt (by (with_reducible repeat (first | apply Kd.R_alloc | apply Kd.R_drewN | apply Kd.R_drew)); exact HO531.out))) (below_size (by repeat (first | (with_reducible first | exact HB.out | apply below_alloc | apply pw_below_drewN | apply below_drew1) | exact HB.out)))); have n5_ := Aside0.mk (below_step (by repeat (first | (with_reducible first | exact HB.out | apply below_alloc | apply pw_below_drewN | apply below_drew1) | exact HB.out)) hb); clear HO_7; clear HO_9; clear HO531; clear HO537; clear HB; have HO_7 := n0_; have HO_9 := n1_; have HO531 := n2_; have HO537 := n3_; have HO542 := n4_; have HB := n5_; clear n0_ n1_ n2_ n3_ n4_ n5_; (try clear hb); (try clear hb2); (try clear hk); (try clear hi); (try clear ho0); obtain ⟨Ao52, co52, eo52⟩ := Kd.R_slice HO531.out; subst eo52) | (go_at_call 20; (with_reducible refine (marquetryref11_SameInts.calls kj8 _ _ t528 _ _ l1 false _ ?side1 ?side2 ?side3 ?side4 A23.out).mono ?_); (case side1 => repeat (first | exact (Kd.R_reads' HO531.out).2.2 | (with_reducible refine Kd.C_alloc ?_ _) | (with_reducible refine Kd.C_drewN ?_ _) | (with_reducible refine Kd.C_drew ?_))); (case side2 => exact (Kd.R_reads' HO531.out).2.1); (case side3 => repeat (first | exact (Kd.C_below HR1.out HB.out) | (with_reducible refine Kd.C_alloc ?_ _) | (with_reducible refine Kd.C_drewN ?_ _) | (with_reducible refine Kd.C_drew ?_))); (case side4 => exact HC1.out); rintro e w' ⟨rfl, ⟨nd, rfl⟩⟩))
            go_ret
            exact ⟨by first | rfl | (simp [errW_none, errW_some] <;> rfl) | (simp [*, errW_none, errW_some] <;> rfl), by repeat (first | (with_reducible first | exact HB.out | apply below_alloc | apply pw_below_drewN | apply below_drew1) | exact HB.out)⟩
          ·rw [if_neg c22] at H
           have c22b0 : (t540 == 0) = false := beq_eq_false_iff_ne.mpr c22
           have c22b1 : (t540 != 0) = true := bne_iff_ne.mpr c22
           obtain rfl := Option.some.inj H
           obtain ⟨Ao53, co53, eo53⟩ := Kd.R_slice HO_7.out
           subst eo53
           go_wp2_with (first | ((with_reducible refine gate_callee (f := 27) rfl ?_); refine goesL_ (some 58) rfl rfl Try.func27 (by kernel_rfl) rfl #[.slice Ao53 t520.length co53, .int .i64 a0, .int .i64 (l1.length : Int)] rfl (by (try simp only [List.map_toArray, List.map_cons, List.map_nil]); first | done | rfl | (simp only [List.length_drop, List.length_take]; rfl)) ?_; (with_reducible refine (levels_Read.calls kj8 _ _ t520 a0 (l1.length : Int) t528 t529 _ ?side1 ?side2 A17.out).mono ?_); (case side1 => repeat (first | exact (Kd.R_reads' HO_7.out).2.2 | (with_reducible refine Kd.C_alloc ?_ _) | (with_reducible refine Kd.C_drewN ?_ _) | (with_reducible refine Kd.C_drew ?_))); (case side2 => exact (Kd.R_reads' HO_7.out).2.1); rintro e w54 ⟨v530, rfl, ho0, hb⟩; refine ⟨_, rfl, ?_⟩; have n0_ := Aside0.mk (Kd.R_below (by (with_reducible repeat (first | apply Kd.R_alloc | apply Kd.R_drewN | apply Kd.R_drew)); exact HO_7.out) hb); have n1_ := Aside0.mk (Kd.R_below (by (with_reducible repeat (first | apply Kd.R_alloc | apply Kd.R_drewN | apply Kd.R_drew)); exact HO_9.out) hb); have n2_ := Aside0.mk (Kd.R_lower ho0 (below_size (by repeat (first | (with_reducible first | exact HB.out | apply below_alloc | apply pw_below_drewN | apply below_drew1) | exact HB.out)))); have n3_ := Aside0.mk (below_step (by repeat (first | (with_reducible first | exact HB.out | apply below_alloc | apply pw_below_drewN | apply below_drew1) | exact HB.out)) hb); clear HO_7; clear HO_9; clear HB; have HO_7 := n0_; have HO_9 := n1_; have HO531 := n2_; have HB := n3_; clear n0_ n1_ n2_ n3_; (try clear hb); (try clear hb2); (try clear hk); (try clear hi); (try clear ho0); obtain ⟨Ao56, co56, eo56⟩ := Kd.R_slice HO_9.out; subst eo56) | ((with_reducible refine gate_builtin (b := .append) (xs := #[.const (.slice none 0 0), .tmp 62]) rfl ?_); (try (refine gate_guard (by rfl) ?_; dsimp only)); at_builtin; refine Kd.R_append_rows (Kd.int .u8) (w0 := w) w.heap.size rfl (.const (.slice none 0 0)) (.tmp 62) 37 5 (.int .u8 0) 1 rfl Try.underlying37 info5 rfl (by decide) (by omega) (.slice none 0 0) ([] : List Int) t524 _ _ _ (fun k_ => some k_ ≠ (.slice Ao53 t520.length co53 : Value).ownBlock ∧ some k_ ≠ (.slice Ao56 t524.length co56 : Value).ownBlock) (fun _ => False) rfl rfl ?aO ?aR (fun _ _ h => h) (fun _ h => h.elim) ?aF ?aB ?aS ?aL ?_; (case aR => repeat (first | exact (Kd.R_reads' HO_9.out).2.2 | (with_reducible refine Kd.C_alloc ?_ _) | (with_reducible refine Kd.C_drewN ?_ _) | (with_reducible refine Kd.C_drew ?_))); (case aB => exact (by repeat (first | (with_reducible first | exact HB.out | apply below_alloc | apply pw_below_drewN | apply below_drew1) | exact HB.out))); (case aF => exact (fun k_ hk => ⟨Kd.fresh' (Kd.R_lt (by (with_reducible repeat (first | apply Kd.R_alloc | apply Kd.R_drewN | apply Kd.R_drew)); exact HO_7.out)) k_ hk, Kd.fresh' (Kd.R_lt (by (with_reducible repeat (first | apply Kd.R_alloc | apply Kd.R_drewN | apply Kd.R_drew)); exact HO_9.out)) k_ hk⟩)); (case aO => exact ((Kd.R_nil _ _ _ _ (fun k_ => some k_ ≠ (.slice Ao53 t520.length co53 : Value).ownBlock ∧ some k_ ≠ (.slice Ao56 t524.length co56 : Value).ownBlock)))); (case aS => exact (below_size (by repeat (first | (with_reducible first | exact HB.out | apply below_alloc | apply pw_below_drewN | apply below_drew1) | exact HB.out)))); (case aL => have := LMc18.out; omega); intro v533 w55 ho hb hg hat; rw [← Ny532.out] at ho; have n0_ := Aside0.mk (Kd.R_after (Kd.R_apart_nil (by (with_reducible repeat (first | apply Kd.R_alloc | apply Kd.R_drewN | apply Kd.R_drew)); exact HO_7.out)) hg hat); have n1_ := Aside0.mk (Kd.R_after (Kd.R_apart_nil (by (with_reducible repeat (first | apply Kd.R_alloc | apply Kd.R_drewN | apply Kd.R_drew)); exact HO_9.out)) hg hat); have n2_ := Aside0.mk (Kd.R_grown (by (with_reducible repeat (first | apply Kd.R_alloc | apply Kd.R_drewN | apply Kd.R_drew)); exact HO531.out) hg (fun _ _ => by simp [Value.ownBlock])); have n3_ := Aside0.mk (hb); have n4_ := Aside0.mk (ho); clear HO_7; clear HO_9; clear HO531; clear HB; have HO_7 := n0_; have HO_9 := n1_; have HO531 := n2_; have HB := n3_; have HO534 := n4_; clear n0_ n1_ n2_ n3_ n4_; clear ho hb hg hat) | ((with_reducible refine gate_builtin (b := .append) (xs := #[.tmp 63, .tmp 64]) rfl ?_); (try (refine gate_guard (by rfl) ?_; dsimp only)); at_builtin; refine Kd.R_append_rows (Kd.int .u8) (w0 := w) w.heap.size rfl (.tmp 63) (.tmp 64) 37 5 (.int .u8 0) 1 rfl Try.underlying37 info5 rfl (by decide) (by omega) v533 y532 l2 _ _ _ (fun k_ => some k_ ≠ (.slice Ao53 t520.length co53 : Value).ownBlock ∧ some k_ ≠ (.slice Ao56 t524.length co56 : Value).ownBlock) (fun _ => False) rfl rfl ?aO ?aR (fun _ _ h => h) (fun _ h => h.elim) ?aF ?aB ?aS ?aL ?_; (case aR => repeat (first | exact (Kd.C_below HR2.out HB.out) | (with_reducible refine Kd.C_alloc ?_ _) | (with_reducible refine Kd.C_drewN ?_ _) | (with_reducible refine Kd.C_drew ?_))); (case aB => exact (by repeat (first | (with_reducible first | exact HB.out | apply below_alloc | apply pw_below_drewN | apply below_drew1) | exact HB.out))); (case aF => exact (fun k_ hk => ⟨Kd.fresh' (Kd.R_lt (by (with_reducible repeat (first | apply Kd.R_alloc | apply Kd.R_drewN | apply Kd.R_drew)); exact HO_7.out)) k_ hk, Kd.fresh' (Kd.R_lt (by (with_reducible repeat (first | apply Kd.R_alloc | apply Kd.R_drewN | apply Kd.R_drew)); exact HO_9.out)) k_ hk⟩)); (case aO => exact (by (with_reducible repeat (first | apply Kd.R_alloc | apply Kd.R_drewN | apply Kd.R_drew)); exact HO534.out)); (case aS => exact (below_size (by repeat (first | (with_reducible first | exact HB.out | apply below_alloc | apply pw_below_drewN | apply below_drew1) | exact HB.out)))); (case aL => have := LMc19.out; omega); intro v536 w57 ho hb hg hat; rw [← Ny535.out] at ho; have n0_ := Aside0.mk (Kd.R_after (ok := (fun k_ => some k_ ≠ (.slice Ao56 t524.length co56 : Value).ownBlock)) (by (with_reducible repeat (first | apply Kd.R_alloc | apply Kd.R_drewN | apply Kd.R_drew)); exact HO_7.out) hg hat); have n1_ := Aside0.mk (Kd.R_after (ok := (fun k_ => some k_ ≠ (.slice Ao53 t520.length co53 : Value).ownBlock)) (by (with_reducible repeat (first | apply Kd.R_alloc | apply Kd.R_drewN | apply Kd.R_drew)); exact HO_9.out) hg hat); have n2_ := Aside0.mk (Kd.R_over' (by (with_reducible repeat (first | apply Kd.R_alloc | apply Kd.R_drewN | apply Kd.R_drew)); exact HO531.out) (Kd.R_typed (by (with_reducible repeat (first | apply Kd.R_alloc | apply Kd.R_drewN | apply Kd.R_drew)); exact HO534.out)) (by decide) hg); have n3_ := Aside0.mk (hb); have n4_ := Aside0.mk (ho); clear HO_7; clear HO_9; clear HO531; clear HB; clear HO534; have HO_7 := n0_; have HO_9 := n1_; have HO531 := n2_; have HB := n3_; have HO537 := n4_; clear n0_ n1_ n2_ n3_ n4_; clear ho hb hg hat; obtain ⟨Ao58, co58, eo58⟩ := Kd.R_slice HO537.out; subst eo58) | ((with_reducible refine gate_callee (f := 29) rfl ?_); refine goesL_ (some 69) rfl rfl Try.func29 (by kernel_rfl) rfl #[.slice Ao58 y535.length co58, .int .i64 a0, .int .i64 (l1.length : Int)] rfl (by (try simp only [List.map_toArray, List.map_cons, List.map_nil]); first | done | rfl | (simp only [List.length_drop, List.length_take]; rfl)) ?_; (with_reducible refine (levels_Unframe.calls kj8 _ _ y535 a0 (l1.length : Int) t538 t539 t540 _ ?side1 ?side2 A20.out).mono ?_); (case side1 => repeat (first | exact (Kd.R_reads' HO537.out).2.2 | (with_reducible refine Kd.C_alloc ?_ _) | (with_reducible refine Kd.C_drewN ?_ _) | (with_reducible refine Kd.C_drew ?_))); (case side2 => exact (Kd.R_reads' HO537.out).2.1); rintro e w59 ⟨v541, rfl, ho0, hb⟩; refine ⟨_, rfl, ?_⟩; have n0_ := Aside0.mk (Kd.R_below (by (with_reducible repeat (first | apply Kd.R_alloc | apply Kd.R_drewN | apply Kd.R_drew)); exact HO_7.out) hb); have n1_ := Aside0.mk (Kd.R_below (by (with_reducible repeat (first | apply Kd.R_alloc | apply Kd.R_drewN | apply Kd.R_drew)); exact HO_9.out) hb); have n2_ := Aside0.mk (Kd.R_elder' (by (with_reducible repeat (first | apply Kd.R_alloc | apply Kd.R_drewN | apply Kd.R_drew)); exact HO531.out) (Kd.R_base ho0) hb); have n3_ := Aside0.mk (Kd.R_below (by (with_reducible repeat (first | apply Kd.R_alloc | apply Kd.R_drewN | apply Kd.R_drew)); exact HO537.out) hb); have n4_ := Aside0.mk (Kd.R_lower (Kd.R_new' ho0 (Kd.R_lt (by (with_reducible repeat (first | apply Kd.R_alloc | apply Kd.R_drewN | apply Kd.R_drew)); exact HO531.out))) (below_size (by repeat (first | (with_reducible first | exact HB.out | apply below_alloc | apply pw_below_drewN | apply below_drew1) | exact HB.out)))); have n5_ := Aside0.mk (below_step (by repeat (first | (with_reducible first | exact HB.out | apply below_alloc | apply pw_below_drewN | apply below_drew1) | exact HB.out)) hb); clear HO_7; clear HO_9; clear HO531; clear HO537; clear HB; have HO_7 := n0_; have HO_9 := n1_; have HO531 := n2_; have HO537 := n3_; have HO542 := n4_; have HB := n5_; clear n0_ n1_ n2_ n3_ n4_ n5_; (try clear hb); (try clear hb2); (try clear hk); (try clear hi); (try clear ho0)))
           go_ret
           exact ⟨by first | rfl | (simp [errW_none, errW_some] <;> rfl) | (simp [*, errW_none, errW_some] <;> rfl), by repeat (first | (with_reducible first | exact HB.out | apply below_alloc | apply pw_below_drewN | apply below_drew1) | exact HB.out)⟩
         ·rw [if_neg c21] at H
          have c21b0 : (t529 == 0) = false := beq_eq_false_iff_ne.mpr c21
          have c21b1 : (t529 != 0) = true := bne_iff_ne.mpr c21
          obtain rfl := Option.some.inj H
          obtain ⟨Ao60, co60, eo60⟩ := Kd.R_slice HO_7.out
          subst eo60
          go_wp2_with (first | ((with_reducible refine gate_callee (f := 27) rfl ?_); refine goesL_ (some 58) rfl rfl Try.func27 (by kernel_rfl) rfl #[.slice Ao60 t520.length co60, .int .i64 a0, .int .i64 (l1.length : Int)] rfl (by (try simp only [List.map_toArray, List.map_cons, List.map_nil]); first | done | rfl | (simp only [List.length_drop, List.length_take]; rfl)) ?_; (with_reducible refine (levels_Read.calls kj8 _ _ t520 a0 (l1.length : Int) t528 t529 _ ?side1 ?side2 A17.out).mono ?_); (case side1 => repeat (first | exact (Kd.R_reads' HO_7.out).2.2 | (with_reducible refine Kd.C_alloc ?_ _) | (with_reducible refine Kd.C_drewN ?_ _) | (with_reducible refine Kd.C_drew ?_))); (case side2 => exact (Kd.R_reads' HO_7.out).2.1); rintro e w61 ⟨v530, rfl, ho0, hb⟩; refine ⟨_, rfl, ?_⟩; have n0_ := Aside0.mk (Kd.R_below (by (with_reducible repeat (first | apply Kd.R_alloc | apply Kd.R_drewN | apply Kd.R_drew)); exact HO_7.out) hb); have n1_ := Aside0.mk (Kd.R_below (by (with_reducible repeat (first | apply Kd.R_alloc | apply Kd.R_drewN | apply Kd.R_drew)); exact HO_9.out) hb); have n2_ := Aside0.mk (Kd.R_lower ho0 (below_size (by repeat (first | (with_reducible first | exact HB.out | apply below_alloc | apply pw_below_drewN | apply below_drew1) | exact HB.out)))); have n3_ := Aside0.mk (below_step (by repeat (first | (with_reducible first | exact HB.out | apply below_alloc | apply pw_below_drewN | apply below_drew1) | exact HB.out)) hb); clear HO_7; clear HO_9; clear HB; have HO_7 := n0_; have HO_9 := n1_; have HO531 := n2_; have HB := n3_; clear n0_ n1_ n2_ n3_; (try clear hb); (try clear hb2); (try clear hk); (try clear hi); (try clear ho0); obtain ⟨Ao63, co63, eo63⟩ := Kd.R_slice HO_9.out; subst eo63) | ((with_reducible refine gate_builtin (b := .append) (xs := #[.const (.slice none 0 0), .tmp 62]) rfl ?_); (try (refine gate_guard (by rfl) ?_; dsimp only)); at_builtin; refine Kd.R_append_rows (Kd.int .u8) (w0 := w) w.heap.size rfl (.const (.slice none 0 0)) (.tmp 62) 37 5 (.int .u8 0) 1 rfl Try.underlying37 info5 rfl (by decide) (by omega) (.slice none 0 0) ([] : List Int) t524 _ _ _ (fun k_ => some k_ ≠ (.slice Ao60 t520.length co60 : Value).ownBlock ∧ some k_ ≠ (.slice Ao63 t524.length co63 : Value).ownBlock) (fun _ => False) rfl rfl ?aO ?aR (fun _ _ h => h) (fun _ h => h.elim) ?aF ?aB ?aS ?aL ?_; (case aR => repeat (first | exact (Kd.R_reads' HO_9.out).2.2 | (with_reducible refine Kd.C_alloc ?_ _) | (with_reducible refine Kd.C_drewN ?_ _) | (with_reducible refine Kd.C_drew ?_))); (case aB => exact (by repeat (first | (with_reducible first | exact HB.out | apply below_alloc | apply pw_below_drewN | apply below_drew1) | exact HB.out))); (case aF => exact (fun k_ hk => ⟨Kd.fresh' (Kd.R_lt (by (with_reducible repeat (first | apply Kd.R_alloc | apply Kd.R_drewN | apply Kd.R_drew)); exact HO_7.out)) k_ hk, Kd.fresh' (Kd.R_lt (by (with_reducible repeat (first | apply Kd.R_alloc | apply Kd.R_drewN | apply Kd.R_drew)); exact HO_9.out)) k_ hk⟩)); (case aO => exact ((Kd.R_nil _ _ _ _ (fun k_ => some k_ ≠ (.slice Ao60 t520.length co60 : Value).ownBlock ∧ some k_ ≠ (.slice Ao63 t524.length co63 : Value).ownBlock)))); (case aS => exact (below_size (by repeat (first | (with_reducible first | exact HB.out | apply below_alloc | apply pw_below_drewN | apply below_drew1) | exact HB.out)))); (case aL => have := LMc18.out; omega); intro v533 w62 ho hb hg hat; rw [← Ny532.out] at ho; have n0_ := Aside0.mk (Kd.R_after (Kd.R_apart_nil (by (with_reducible repeat (first | apply Kd.R_alloc | apply Kd.R_drewN | apply Kd.R_drew)); exact HO_7.out)) hg hat); have n1_ := Aside0.mk (Kd.R_after (Kd.R_apart_nil (by (with_reducible repeat (first | apply Kd.R_alloc | apply Kd.R_drewN | apply Kd.R_drew)); exact HO_9.out)) hg hat); have n2_ := Aside0.mk (Kd.R_grown (by (with_reducible repeat (first | apply Kd.R_alloc | apply Kd.R_drewN | apply Kd.R_drew)); exact HO531.out) hg (fun _ _ => by simp [Value.ownBlock])); have n3_ := Aside0.mk (hb); have n4_ := Aside0.mk (ho); clear HO_7; clear HO_9; clear HO531; clear HB; have HO_7 := n0_; have HO_9 := n1_; have HO531 := n2_; have HB := n3_; have HO534 := n4_; clear n0_ n1_ n2_ n3_ n4_; clear ho hb hg hat) | ((with_reducible refine gate_builtin (b := .append) (xs := #[.tmp 63, .tmp 64]) rfl ?_); (try (refine gate_guard (by rfl) ?_; dsimp only)); at_builtin; refine Kd.R_append_rows (Kd.int .u8) (w0 := w) w.heap.size rfl (.tmp 63) (.tmp 64) 37 5 (.int .u8 0) 1 rfl Try.underlying37 info5 rfl (by decide) (by omega) v533 y532 l2 _ _ _ (fun k_ => some k_ ≠ (.slice Ao60 t520.length co60 : Value).ownBlock ∧ some k_ ≠ (.slice Ao63 t524.length co63 : Value).ownBlock) (fun _ => False) rfl rfl ?aO ?aR (fun _ _ h => h) (fun _ h => h.elim) ?aF ?aB ?aS ?aL ?_; (case aR => repeat (first | exact (Kd.C_below HR2.out HB.out) | (with_reducible refine Kd.C_alloc ?_ _) | (with_reducible refine Kd.C_drewN ?_ _) | (with_reducible refine Kd.C_drew ?_))); (case aB => exact (by repeat (first | (with_reducible first | exact HB.out | apply below_alloc | apply pw_below_drewN | apply below_drew1) | exact HB.out))); (case aF => exact (fun k_ hk => ⟨Kd.fresh' (Kd.R_lt (by (with_reducible repeat (first | apply Kd.R_alloc | apply Kd.R_drewN | apply Kd.R_drew)); exact HO_7.out)) k_ hk, Kd.fresh' (Kd.R_lt (by (with_reducible repeat (first | apply Kd.R_alloc | apply Kd.R_drewN | apply Kd.R_drew)); exact HO_9.out)) k_ hk⟩)); (case aO => exact (by (with_reducible repeat (first | apply Kd.R_alloc | apply Kd.R_drewN | apply Kd.R_drew)); exact HO534.out)); (case aS => exact (below_size (by repeat (first | (with_reducible first | exact HB.out | apply below_alloc | apply pw_below_drewN | apply below_drew1) | exact HB.out)))); (case aL => have := LMc19.out; omega); intro v536 w64 ho hb hg hat; rw [← Ny535.out] at ho; have n0_ := Aside0.mk (Kd.R_after (ok := (fun k_ => some k_ ≠ (.slice Ao63 t524.length co63 : Value).ownBlock)) (by (with_reducible repeat (first | apply Kd.R_alloc | apply Kd.R_drewN | apply Kd.R_drew)); exact HO_7.out) hg hat); have n1_ := Aside0.mk (Kd.R_after (ok := (fun k_ => some k_ ≠ (.slice Ao60 t520.length co60 : Value).ownBlock)) (by (with_reducible repeat (first | apply Kd.R_alloc | apply Kd.R_drewN | apply Kd.R_drew)); exact HO_9.out) hg hat); have n2_ := Aside0.mk (Kd.R_over' (by (with_reducible repeat (first | apply Kd.R_alloc | apply Kd.R_drewN | apply Kd.R_drew)); exact HO531.out) (Kd.R_typed (by (with_reducible repeat (first | apply Kd.R_alloc | apply Kd.R_drewN | apply Kd.R_drew)); exact HO534.out)) (by decide) hg); have n3_ := Aside0.mk (hb); have n4_ := Aside0.mk (ho); clear HO_7; clear HO_9; clear HO531; clear HB; clear HO534; have HO_7 := n0_; have HO_9 := n1_; have HO531 := n2_; have HB := n3_; have HO537 := n4_; clear n0_ n1_ n2_ n3_ n4_; clear ho hb hg hat; obtain ⟨Ao65, co65, eo65⟩ := Kd.R_slice HO537.out; subst eo65) | ((with_reducible refine gate_callee (f := 29) rfl ?_); refine goesL_ (some 69) rfl rfl Try.func29 (by kernel_rfl) rfl #[.slice Ao65 y535.length co65, .int .i64 a0, .int .i64 (l1.length : Int)] rfl (by (try simp only [List.map_toArray, List.map_cons, List.map_nil]); first | done | rfl | (simp only [List.length_drop, List.length_take]; rfl)) ?_; (with_reducible refine (levels_Unframe.calls kj8 _ _ y535 a0 (l1.length : Int) t538 t539 t540 _ ?side1 ?side2 A20.out).mono ?_); (case side1 => repeat (first | exact (Kd.R_reads' HO537.out).2.2 | (with_reducible refine Kd.C_alloc ?_ _) | (with_reducible refine Kd.C_drewN ?_ _) | (with_reducible refine Kd.C_drew ?_))); (case side2 => exact (Kd.R_reads' HO537.out).2.1); rintro e w66 ⟨v541, rfl, ho0, hb⟩; refine ⟨_, rfl, ?_⟩; have n0_ := Aside0.mk (Kd.R_below (by (with_reducible repeat (first | apply Kd.R_alloc | apply Kd.R_drewN | apply Kd.R_drew)); exact HO_7.out) hb); have n1_ := Aside0.mk (Kd.R_below (by (with_reducible repeat (first | apply Kd.R_alloc | apply Kd.R_drewN | apply Kd.R_drew)); exact HO_9.out) hb); have n2_ := Aside0.mk (Kd.R_elder' (by (with_reducible repeat (first | apply Kd.R_alloc | apply Kd.R_drewN | apply Kd.R_drew)); exact HO531.out) (Kd.R_base ho0) hb); have n3_ := Aside0.mk (Kd.R_below (by (with_reducible repeat (first | apply Kd.R_alloc | apply Kd.R_drewN | apply Kd.R_drew)); exact HO537.out) hb); have n4_ := Aside0.mk (Kd.R_lower (Kd.R_new' ho0 (Kd.R_lt (by (with_reducible repeat (first | apply Kd.R_alloc | apply Kd.R_drewN | apply Kd.R_drew)); exact HO531.out))) (below_size (by repeat (first | (with_reducible first | exact HB.out | apply below_alloc | apply pw_below_drewN | apply below_drew1) | exact HB.out)))); have n5_ := Aside0.mk (below_step (by repeat (first | (with_reducible first | exact HB.out | apply below_alloc | apply pw_below_drewN | apply below_drew1) | exact HB.out)) hb); clear HO_7; clear HO_9; clear HO531; clear HO537; clear HB; have HO_7 := n0_; have HO_9 := n1_; have HO531 := n2_; have HO537 := n3_; have HO542 := n4_; have HB := n5_; clear n0_ n1_ n2_ n3_ n4_ n5_; (try clear hb); (try clear hb2); (try clear hk); (try clear hi); (try clear ho0)))
          go_ret
          exact ⟨by first | rfl | (simp [errW_none, errW_some] <;> rfl) | (simp [*, errW_none, errW_some] <;> rfl), by repeat (first | (with_reducible first | exact HB.out | apply below_alloc | apply pw_below_drewN | apply below_drew1) | exact HB.out)⟩
        ·rw [if_neg c19] at H
         exact absurd H (by simp)
       ·rw [if_neg c18] at H
        exact absurd H (by simp)
def marquetrylaw20_LevelsBack.Pure : Prop := ∀ (a0 : Int) (l1 : List Int) (l2 : List Int), (Lit.int .i64 a0).wf = true → ((∀ x_ ∈ l1, (Lit.int .i64 x_).wf = true) ∧ l1.length ≤ maxLen ∧ l1.length * 8 ≤ 140737488351232) → ((∀ x_ ∈ l2, (Lit.int .u8 x_).wf = true) ∧ l2.length ≤ maxLen ∧ l2.length * 1 ≤ 140737488351232) → ∃ k, marquetrylaw20_LevelsBack.f k a0 l1 l2 = some true
end Go.Proofs.Ytpibhiacmceekaa.X
end

section
namespace Go.Proofs.Ytpibhiacmceekaa.X
open Go.RowKit Go.Proofs.YtpibhiacmceekaaW.PrintWords Go.Proofs.YtpibhiacmceekaaW.PrintLast Go.Proofs.YtpibhiacmceekaaW.PrintMore
attribute [local go_sem] max2_int min2_int max_two min_two max_three min_three max_four min_four
set_option linter.unusedVariables false
set_option linter.unusedSimpArgs false
def marquetryref11_same.l0 : Nat → List Int → Int → Int → Option (Int)
 | 0, _, _, _ => none
 | k + 1, x0, x1, x5 => if (wrap64 (x1 + x5)) < (x0.length : Int) then (if 0 ≤ (wrap64 (x1 + x5)) then (if 0 ≤ x1 then (if x1 < (x0.length : Int) then (if (rd x0 (wrap64 (x1 + x5))) = (rd x0 x1) then (marquetryref11_same.l0 k x0 x1 (wrap64 (x5 + 1))) else (some x5)) else (none)) else (none)) else (none)) else (some x5)
def marquetryref11_same.f (k : Nat) (l0 : List Int) (a1 : Int) : Option (Int) := marquetryref11_same.l0 k l0 a1 0
theorem marquetryref11_same.mono_l : ∀ k, (∀ y0 y1 y2, LeO (marquetryref11_same.l0 k y0 y1 y2) (marquetryref11_same.l0 (k + 1) y0 y1 y2))
 | 0 => fun _ _ _ r h => by simp [marquetryref11_same.l0] at h
 | k + 1 => by
  have ih0 := marquetryref11_same.mono_l k
  ·intro y0 y1 y2
   unfold marquetryref11_same.l0
   repeat' first
   | (with_reducible exact ih0 _ _ _)
   | (with_reducible exact LeO.refl _)
   | (with_reducible exact LeO.none _)
   | (with_reducible refine LeO.ite ?_ ?_)
   | (with_reducible refine LeO.bind ?_ (fun _ => ?_))
   | exact ih0 _ _ _
   | exact LeO.none _
   | refine LeO.ite ?_ ?_
   | refine LeO.bind ?_ (fun _ => ?_)
theorem marquetryref11_same.mono : ∀ a0 a1 k, LeO (marquetryref11_same.f k a0 a1) (marquetryref11_same.f (k + 1) a0 a1) := by
 intro a0 a1 k
 have ih0 := marquetryref11_same.mono_l k
 unfold marquetryref11_same.f
 repeat' first
   | (with_reducible exact ih0 _ _ _)
   | (with_reducible exact LeO.refl _)
   | (with_reducible exact LeO.none _)
   | (with_reducible refine LeO.ite ?_ ?_)
   | (with_reducible refine LeO.bind ?_ (fun _ => ?_))
   | exact ih0 _ _ _
   | exact LeO.none _
   | refine LeO.ite ?_ ?_
   | refine LeO.bind ?_ (fun _ => ?_)
set_option maxHeartbeats 8000000 in
set_option maxRecDepth 100000 in
theorem marquetryref11_same.calls (k : Nat) (A0 : Option Addr) (c0 : Nat) (l0 : List Int) (a1 : Int) (r : Int) (w : World) (hr0 : Kd.C (Kd.int .i64) w A0 l0.length l0) (hc0 : l0.length ≤ c0) (h : marquetryref11_same.f k l0 a1 = some r) :
  Calls Try.prog 57 #[.slice A0 l0.length c0, .int .i64 a1] w fun e w' => e = .returned (.int .i64 r) ∧ Drawn0 w w' := by
 have HR0 := Aside0.mk hr0
 have HC0 := Aside0.mk hc0
 clear hr0 hc0
 have H : (marquetryref11_same.l0 k l0 a1 0) = some r := h
 clear h
 have H' := Aside0.mk H
 clear H
 go_enter Try.func57, Try.ntmps57
 go_wp2
 repeat (go_quiet (fail); try go_wp2)
 go_loopg [5] k (fun kq v5 w' => ∃ (x5_1 : Int), v5 = .int .i64 x5_1 ∧ Aside0 (marquetryref11_same.l0 kq l0 a1 x5_1 = some r) ∧ Aside0 (kq ≤ k) ∧ Drawn0 w w')
 case atStart => exact ⟨(0), (by first | rfl | (simp; done) | (simp [*]; done)), H', ⟨Nat.le_refl _⟩, by repeat (first | exact Drawn0.refl _ | apply Drawn0.step)⟩
 case round =>
  clear H'
  try clear p2
  obtain ⟨x5_1, rfl, HA, HK1, ⟨m1, rfl⟩⟩ := hrel
  cases gk with
  | zero => exact absurd HA.out (by simp [marquetryref11_same.l0])
  | succ k1 =>
   have H := HA.out
   clear HA
   simp only [marquetryref11_same.l0] at H
   by_cases c3 : (wrap64 (a1 + x5_1)) < (l0.length : Int)
   ·rw [if_pos c3] at H
    have c3b0 : decide ((wrap64 (a1 + x5_1)) < (l0.length : Int)) = true := decide_eq_true c3
    clear c3
    obtain ⟨ji4, hji4⟩ : ∃ j_ : Int, (wrap64 (a1 + x5_1)) = j_ := ⟨_, rfl⟩
    replace H : (if 0 ≤ (ji4) then (if 0 ≤ a1 then (if a1 < (l0.length : Int) then (if (rd l0 (ji4)) = (rd l0 a1) then (marquetryref11_same.l0 k1 l0 a1 (wrap64 (x5_1 + 1))) else (some x5_1)) else (none)) else (none)) else (none)) = some r := by first | (rw [hji4] at H; exact H) | (simp only [hji4] at H ⊢; exact H)
    (try rw [hji4] at c3b0)
    have hji4w : (IntKind.i64.wrap (a1 + x5_1)) = ji4 := (i64_w _).trans hji4
    by_cases c5 : 0 ≤ (ji4)
    ·rw [if_pos c5] at H
     have c5b0 : decide (0 ≤ (ji4)) = true := decide_eq_true c5
     clear c5
     by_cases c6 : 0 ≤ a1
     ·rw [if_pos c6] at H
      have c6b0 : decide (0 ≤ a1) = true := decide_eq_true c6
      clear c6
      by_cases c7 : a1 < (l0.length : Int)
      ·rw [if_pos c7] at H
       have c7b0 : decide (a1 < (l0.length : Int)) = true := decide_eq_true c7
       clear c7
       by_cases c8 : (rd l0 (ji4)) = (rd l0 a1)
       ·rw [if_pos c8] at H
        have c8b0 : ((rd l0 (ji4)) == (rd l0 a1)) = true := beq_iff_eq.mpr c8
        have c8b1 : ((rd l0 (ji4)) != (rd l0 a1)) = false := bne_eq_false_iff_eq.mpr c8
        clear c8
        have H' := Aside0.mk H
        clear H
        have p208 : 0 ≤ ((ji4) : Int) := of_decide_eq_true (by first | (with_reducible assumption) | assumption)
        have q208 : (ji4) < (l0.length : Int) := of_decide_eq_true (by first | (with_reducible assumption) | assumption)
        obtain ⟨ad208, e208, hx208_0⟩ := Kd.at_int HR0.out (ji4) p208 q208
        cases e208
        replace p208 := eq_true p208
        replace q208 := eq_true q208
        have p209 : 0 ≤ (a1 : Int) := of_decide_eq_true (by first | (with_reducible assumption) | assumption)
        have q209 : a1 < (l0.length : Int) := of_decide_eq_true (by first | (with_reducible assumption) | assumption)
        obtain ⟨ad209, e209, hx209_0⟩ := Kd.at_int HR0.out a1 p209 q209
        obtain rfl : ad208 = ad209 := (by injection e209)
        replace p209 := eq_true p209
        replace q209 := eq_true q209
        go_wp2
        repeat (go_quiet (fail); try go_wp2)
        go_roundg k1
        case measure => have := HK1.out; omega
        case rel => exact ⟨(wrap64 (x5_1 + 1)), (by first | rfl | (simp; done) | (simp [*]; done)), H', ⟨by have := HK1.out; omega⟩, by repeat (first | exact Drawn0.refl _ | apply Drawn0.step)⟩
       ·rw [if_neg c8] at H
        have c8b0 : ((rd l0 (ji4)) == (rd l0 a1)) = false := beq_eq_false_iff_ne.mpr c8
        have c8b1 : ((rd l0 (ji4)) != (rd l0 a1)) = true := bne_iff_ne.mpr c8
        obtain rfl := Option.some.inj H
        have p208 : 0 ≤ ((ji4) : Int) := of_decide_eq_true (by first | (with_reducible assumption) | assumption)
        have q208 : (ji4) < (l0.length : Int) := of_decide_eq_true (by first | (with_reducible assumption) | assumption)
        obtain ⟨ad208, e208, hx208_0⟩ := Kd.at_int HR0.out (ji4) p208 q208
        cases e208
        replace p208 := eq_true p208
        replace q208 := eq_true q208
        have p209 : 0 ≤ (a1 : Int) := of_decide_eq_true (by first | (with_reducible assumption) | assumption)
        have q209 : a1 < (l0.length : Int) := of_decide_eq_true (by first | (with_reducible assumption) | assumption)
        obtain ⟨ad209, e209, hx209_0⟩ := Kd.at_int HR0.out a1 p209 q209
        obtain rfl : ad208 = ad209 := (by injection e209)
        replace p209 := eq_true p209
        replace q209 := eq_true q209
        go_wp2
        repeat (go_quiet (fail); try go_wp2)
        go_ret
        exact ⟨by first | rfl | (simp; done) | (simp only [← hji4] <;> (first | rfl | simp)) | (simp [*]; done), by repeat (first | exact Drawn0.refl _ | apply Drawn0.step)⟩
      ·rw [if_neg c7] at H
       exact absurd H (by simp)
     ·rw [if_neg c6] at H
      exact absurd H (by simp)
    ·rw [if_neg c5] at H
     exact absurd H (by simp)
   ·rw [if_neg c3] at H
    have c3b0 : decide ((wrap64 (a1 + x5_1)) < (l0.length : Int)) = false := decide_eq_false c3
    clear c3
    obtain rfl := Option.some.inj H
    go_wp2
    repeat (go_quiet (fail); try go_wp2)
    go_ret
    exact ⟨by first | rfl | (simp; done) | (simp [*]; done), by repeat (first | exact Drawn0.refl _ | apply Drawn0.step)⟩
end Go.Proofs.Ytpibhiacmceekaa.X
end

section
namespace Go.Proofs.Ytpibhiacmceekaa.X
open Go.RowKit Go.Proofs.YtpibhiacmceekaaW.PrintWords Go.Proofs.YtpibhiacmceekaaW.PrintLast Go.Proofs.YtpibhiacmceekaaW.PrintMore
attribute [local go_sem] max2_int min2_int max_two min_two max_three min_three max_four min_four
set_option linter.unusedVariables false
set_option linter.unusedSimpArgs false
def marquetryref01_Varint.l0 : Nat → Int → List Int → Option (List Int)
 | 0, _, _ => none
 | k + 1, x0, x3 => if x0 ≥ 128 then (if x3.length < 140737488355328 then (marquetryref01_Varint.l0 k (IntKind.u64.wrap (Int.tdiv x0 128)) (x3 ++ [(IntKind.u64.wrap (128 + (Int.tmod x0 128))) % 256])) else (none)) else (if x3.length < 140737488355328 then (some (x3 ++ [(x0) % 256])) else (none))
def marquetryref01_Varint.f (k : Nat) (a0 : Int) : Option (List Int) := marquetryref01_Varint.l0 k a0 ([] : List Int)
theorem marquetryref01_Varint.mono_l : ∀ k, (∀ y0 y1, LeO (marquetryref01_Varint.l0 k y0 y1) (marquetryref01_Varint.l0 (k + 1) y0 y1))
 | 0 => fun _ _ r h => by simp [marquetryref01_Varint.l0] at h
 | k + 1 => by
  have ih0 := marquetryref01_Varint.mono_l k
  ·intro y0 y1
   unfold marquetryref01_Varint.l0
   repeat' first
   | (with_reducible exact ih0 _ _)
   | (with_reducible exact LeO.refl _)
   | (with_reducible exact LeO.none _)
   | (with_reducible refine LeO.ite ?_ ?_)
   | (with_reducible refine LeO.bind ?_ (fun _ => ?_))
   | exact ih0 _ _
   | exact LeO.none _
   | refine LeO.ite ?_ ?_
   | refine LeO.bind ?_ (fun _ => ?_)
theorem marquetryref01_Varint.mono : ∀ a0 k, LeO (marquetryref01_Varint.f k a0) (marquetryref01_Varint.f (k + 1) a0) := by
 intro a0 k
 have ih0 := marquetryref01_Varint.mono_l k
 unfold marquetryref01_Varint.f
 repeat' first
   | (with_reducible exact ih0 _ _)
   | (with_reducible exact LeO.refl _)
   | (with_reducible exact LeO.none _)
   | (with_reducible refine LeO.ite ?_ ?_)
   | (with_reducible refine LeO.bind ?_ (fun _ => ?_))
   | exact ih0 _ _
   | exact LeO.none _
   | refine LeO.ite ?_ ?_
   | refine LeO.bind ?_ (fun _ => ?_)
set_option maxHeartbeats 8000000 in
set_option maxRecDepth 100000 in
theorem marquetryref01_Varint.calls (k : Nat) (a0 : Int) (r : List Int) (w : World) (h : marquetryref01_Varint.f k a0 = some r) :
  Calls Try.prog 58 #[.int .u64 a0] w fun e w' => ∃ v0_ : Value, e = .returned (v0_) ∧ Kd.R (Kd.int .u8) 5 w' w.heap.size (fun _ => True) v0_ r ∧ Below w.heap.size w w' := by
 have HB := Aside0.mk (Below.refl w.heap.size w)
 have H : (marquetryref01_Varint.l0 k a0 ([] : List Int)) = some r := h
 clear h
 have H' := Aside0.mk H
 clear H
 go_enter Try.func58, Try.ntmps58
 go_wp2
 go_loopg [0, 3] k (fun kq v0 v3 w' => ∃ (x0_1 : Int) (x3_1 : List Int), v0 = .int .u64 x0_1 ∧ Aside0 (marquetryref01_Varint.l0 kq x0_1 x3_1 = some r) ∧ Aside0 (kq ≤ k) ∧ Aside0 (Kd.R (Kd.int .u8) 5 w' w.heap.size (fun _ => True) v3 x3_1) ∧ Aside0 (Below w.heap.size w w'))
 case atStart => exact ⟨(a0), (([] : List Int)), (by first | rfl | (simp; done) | (simp [*]; done)), H', ⟨Nat.le_refl _⟩, ⟨by first | exact Kd.R_nil _ _ _ _ _ | exact Kd.N_nil _ _ _ _ _ | exact Kd.V_nil _ _ _ _ _ | exact Kd.Q_nil _ _ _ _ _ | exact Kd.S_nil _ _ _ _ _⟩, ⟨by repeat (first | (with_reducible first | exact HB.out | apply below_alloc | apply pw_below_drewN | apply below_drew1) | exact HB.out)⟩⟩
 case round =>
  clear H'
  obtain ⟨x0_1, x3_1, rfl, HA, HK1, HO_3, HB⟩ := hrel
  cases gk with
  | zero => exact absurd HA.out (by simp [marquetryref01_Varint.l0])
  | succ k1 =>
   have H := HA.out
   clear HA
   simp only [marquetryref01_Varint.l0] at H
   by_cases c2 : x0_1 ≥ 128
   ·rw [if_pos c2] at H
    have c2b0 : decide (128 ≤ x0_1) = true := decide_eq_true c2
    clear c2
    by_cases c3 : x3_1.length < 140737488355328
    ·rw [if_pos c3] at H
     have LMc3 := Aside0.mk c3
     clear c3
     obtain ⟨y210, hy210⟩ : ∃ y_ : List Int, y_ = (x3_1 ++ [(IntKind.u64.wrap (128 + (Int.tmod x0_1 128))) % 256]) := ⟨_, rfl⟩
     replace H : (marquetryref01_Varint.l0 k1 (IntKind.u64.wrap (Int.tdiv x0_1 128)) y210) = some r := by first | (rw [hy210]; with_reducible exact H) | (have H2_ := (Option.bind_some _ _).symm.trans H; rw [hy210]; with_reducible exact H2_) | (have H2_ := (Option.bind_some _ _).symm.trans H; with_reducible exact H2_) | with_reducible exact H | (rw [hy210]; exact H) | exact H
     have Ny210 := Aside0.mk hy210
     clear hy210
     have H' := Aside0.mk H
     clear H
     go_wp2_with (first | ((with_reducible refine gate_builtin (b := .append) (xs := #[.tmp 6, .tmp 11]) rfl ?_); at_builtin; refine Kd.R_append (Kd.int .u8) (w0 := w) w.heap.size rfl (.tmp 6) (.tmp 11) 37 5 (.int .u8 0) 1 rfl Try.underlying37 info5 rfl (by decide) (by omega) u3 x3_1 ((IntKind.u64.wrap (128 + (Int.tmod x0_1 128))) % 256) [.int .u8 ((IntKind.u64.wrap (128 + (Int.tmod x0_1 128))) % 256)] (fun _ => True) (fun _ => False) rfl rfl ?aP (fun _ hk => hk.elim) ?aF ?aO ?aB ?aS ?aL ?_; (case aP => exact rfl); (case aB => exact (by repeat (first | (with_reducible first | exact HB.out | apply below_alloc | apply pw_below_drewN | apply below_drew1) | exact HB.out))); (case aF => exact (fun _ _ => trivial)); (case aO => exact (by (with_reducible repeat (first | apply Kd.R_alloc | apply Kd.R_drewN | apply Kd.R_drew)); exact HO_3.out)); (case aS => exact (below_size (by repeat (first | (with_reducible first | exact HB.out | apply below_alloc | apply pw_below_drewN | apply below_drew1) | exact HB.out)))); (case aL => have := LMc3.out; omega); intro v211 w4 ho hb hg hat; rw [← Ny210.out] at ho; have n0_ := Aside0.mk (hb); have n1_ := Aside0.mk (ho); clear HB; clear HO_3; have HB := n0_; have HO212 := n1_; clear n0_ n1_; clear ho hb hg hat))
     go_roundg k1
     case measure => have := HK1.out; omega
     case rel => exact ⟨(IntKind.u64.wrap (Int.tdiv x0_1 128)), (y210), (by first | rfl | (simp; done) | (simp [*]; done)), H', ⟨by have := HK1.out; omega⟩, ⟨by (with_reducible repeat (first | apply Kd.R_alloc | apply Kd.R_drewN | apply Kd.R_drew)); exact HO212.out⟩, ⟨by repeat (first | (with_reducible first | exact HB.out | apply below_alloc | apply pw_below_drewN | apply below_drew1) | exact HB.out)⟩⟩
    ·rw [if_neg c3] at H
     exact absurd H (by simp)
   ·rw [if_neg c2] at H
    have c2b0 : decide (128 ≤ x0_1) = false := decide_eq_false c2
    clear c2
    by_cases c5 : x3_1.length < 140737488355328
    ·rw [if_pos c5] at H
     have LMc5 := Aside0.mk c5
     clear c5
     obtain ⟨y213, hy213⟩ : ∃ y_ : List Int, y_ = (x3_1 ++ [(x0_1) % 256]) := ⟨_, rfl⟩
     replace H : (some y213) = some r := by first | (rw [hy213]; with_reducible exact H) | (have H2_ := (Option.bind_some _ _).symm.trans H; rw [hy213]; with_reducible exact H2_) | (have H2_ := (Option.bind_some _ _).symm.trans H; with_reducible exact H2_) | with_reducible exact H | (rw [hy213]; exact H) | exact H
     have Ny213 := Aside0.mk hy213
     clear hy213
     obtain rfl := Option.some.inj H
     go_wp2_with (first | ((with_reducible refine gate_builtin (b := .append) (xs := #[.tmp 15, .tmp 18]) rfl ?_); at_builtin; refine Kd.R_append (Kd.int .u8) (w0 := w) w.heap.size rfl (.tmp 15) (.tmp 18) 37 5 (.int .u8 0) 1 rfl Try.underlying37 info5 rfl (by decide) (by omega) u3 x3_1 ((x0_1) % 256) [.int .u8 ((x0_1) % 256)] (fun _ => True) (fun _ => False) rfl rfl ?aP (fun _ hk => hk.elim) ?aF ?aO ?aB ?aS ?aL ?_; (case aP => exact rfl); (case aB => exact (by repeat (first | (with_reducible first | exact HB.out | apply below_alloc | apply pw_below_drewN | apply below_drew1) | exact HB.out))); (case aF => exact (fun _ _ => trivial)); (case aO => exact (by (with_reducible repeat (first | apply Kd.R_alloc | apply Kd.R_drewN | apply Kd.R_drew)); exact HO_3.out)); (case aS => exact (below_size (by repeat (first | (with_reducible first | exact HB.out | apply below_alloc | apply pw_below_drewN | apply below_drew1) | exact HB.out)))); (case aL => have := LMc5.out; omega); intro v214 w6 ho hb hg hat; rw [← Ny213.out] at ho; have n0_ := Aside0.mk (hb); have n1_ := Aside0.mk (ho); clear HB; clear HO_3; have HB := n0_; have HO215 := n1_; clear n0_ n1_; clear ho hb hg hat))
     go_ret
     exact ⟨_, by first | rfl | (simp [errW_none, errW_some] <;> rfl) | (simp [*, errW_none, errW_some] <;> rfl), by (with_reducible repeat (first | apply Kd.R_alloc | apply Kd.R_drewN | apply Kd.R_drew)); exact HO215.out, by repeat (first | (with_reducible first | exact HB.out | apply below_alloc | apply pw_below_drewN | apply below_drew1) | exact HB.out)⟩
    ·rw [if_neg c5] at H
     exact absurd H (by simp)
end Go.Proofs.Ytpibhiacmceekaa.X
end

section
namespace Go.Proofs.Ytpibhiacmceekaa.X
open Go.RowKit Go.Proofs.YtpibhiacmceekaaW.PrintWords Go.Proofs.YtpibhiacmceekaaW.PrintLast Go.Proofs.YtpibhiacmceekaaW.PrintMore
attribute [local go_sem] max2_int min2_int max_two min_two max_three min_three max_four min_four
set_option linter.unusedVariables false
set_option linter.unusedSimpArgs false
def marquetryref11_packs.l0 : Nat → List Int → Int → Int → Option (Int)
 | 0, _, _, _ => none
 | k + 1, x0, x1, x5 => if (wrap64 (x1 + x5)) < (x0.length : Int) then (if (wrap64 (x1 + (wrap64 (x5 + 8)))) ≥ (x0.length : Int) then (some (wrap64 ((x0.length : Int) - x1))) else ((marquetryref11_same.f k x0 (wrap64 (x1 + (wrap64 (x5 + 8))))).bind fun t216 => (if t216 ≥ 8 then (some (wrap64 (x5 + 8))) else (marquetryref11_packs.l0 k x0 x1 (wrap64 (x5 + 8)))))) else (some x5)
def marquetryref11_packs.f (k : Nat) (l0 : List Int) (a1 : Int) : Option (Int) := marquetryref11_packs.l0 k l0 a1 0
theorem marquetryref11_packs.mono_l : ∀ k, (∀ y0 y1 y2, LeO (marquetryref11_packs.l0 k y0 y1 y2) (marquetryref11_packs.l0 (k + 1) y0 y1 y2))
 | 0 => fun _ _ _ r h => by simp [marquetryref11_packs.l0] at h
 | k + 1 => by
  have ih0 := marquetryref11_packs.mono_l k
  ·intro y0 y1 y2
   unfold marquetryref11_packs.l0
   repeat' first
   | (with_reducible exact ih0 _ _ _)
   | (with_reducible exact marquetryref11_same.mono _ _ _)
   | (with_reducible exact LeO.refl _)
   | (with_reducible exact LeO.none _)
   | (with_reducible refine LeO.ite ?_ ?_)
   | (with_reducible refine LeO.bind ?_ (fun _ => ?_))
   | exact ih0 _ _ _
   | exact marquetryref11_same.mono _ _ _
   | exact LeO.none _
   | refine LeO.ite ?_ ?_
   | refine LeO.bind ?_ (fun _ => ?_)
theorem marquetryref11_packs.mono : ∀ a0 a1 k, LeO (marquetryref11_packs.f k a0 a1) (marquetryref11_packs.f (k + 1) a0 a1) := by
 intro a0 a1 k
 have ih0 := marquetryref11_packs.mono_l k
 unfold marquetryref11_packs.f
 repeat' first
   | (with_reducible exact ih0 _ _ _)
   | (with_reducible exact marquetryref11_same.mono _ _ _)
   | (with_reducible exact LeO.refl _)
   | (with_reducible exact LeO.none _)
   | (with_reducible refine LeO.ite ?_ ?_)
   | (with_reducible refine LeO.bind ?_ (fun _ => ?_))
   | exact ih0 _ _ _
   | exact marquetryref11_same.mono _ _ _
   | exact LeO.none _
   | refine LeO.ite ?_ ?_
   | refine LeO.bind ?_ (fun _ => ?_)
set_option maxHeartbeats 8000000 in
set_option maxRecDepth 100000 in
theorem marquetryref11_packs.calls (k : Nat) (A0 : Option Addr) (c0 : Nat) (l0 : List Int) (a1 : Int) (r : Int) (w : World) (hr0 : Kd.C (Kd.int .i64) w A0 l0.length l0) (hc0 : l0.length ≤ c0) (h : marquetryref11_packs.f k l0 a1 = some r) :
  Calls Try.prog 59 #[.slice A0 l0.length c0, .int .i64 a1] w fun e w' => e = .returned (.int .i64 r) ∧ Drawn0 w w' := by
 have HR0 := Aside0.mk hr0
 have HC0 := Aside0.mk hc0
 clear hr0 hc0
 have H : (marquetryref11_packs.l0 k l0 a1 0) = some r := h
 clear h
 have H' := Aside0.mk H
 clear H
 go_enter Try.func59, Try.ntmps59
 go_wp2
 go_loopg [5] k (fun kq v5 w' => ∃ (x5_1 : Int), v5 = .int .i64 x5_1 ∧ Aside0 (marquetryref11_packs.l0 kq l0 a1 x5_1 = some r) ∧ Aside0 (kq ≤ k) ∧ Drawn0 w w')
 case atStart => exact ⟨(0), (by first | rfl | (simp; done) | (simp [*]; done)), H', ⟨Nat.le_refl _⟩, by repeat (first | exact Drawn0.refl _ | apply Drawn0.step)⟩
 case round =>
  clear H'
  try clear p2
  obtain ⟨x5_1, rfl, HA, HK1, ⟨m1, rfl⟩⟩ := hrel
  cases gk with
  | zero => exact absurd HA.out (by simp [marquetryref11_packs.l0])
  | succ k1 =>
   have H := HA.out
   clear HA
   simp only [marquetryref11_packs.l0] at H
   by_cases c3 : (wrap64 (a1 + x5_1)) < (l0.length : Int)
   ·rw [if_pos c3] at H
    have c3b0 : decide ((wrap64 (a1 + x5_1)) < (l0.length : Int)) = true := decide_eq_true c3
    clear c3
    by_cases c4 : (wrap64 (a1 + (wrap64 (x5_1 + 8)))) ≥ (l0.length : Int)
    ·rw [if_pos c4] at H
     have c4b0 : decide ((l0.length : Int) ≤ (wrap64 (a1 + (wrap64 (x5_1 + 8))))) = true := decide_eq_true c4
     clear c4
     obtain rfl := Option.some.inj H
     go_wp2
     go_ret
     exact ⟨by first | rfl | (simp; done) | (simp [*]; done), by repeat (first | exact Drawn0.refl _ | apply Drawn0.step)⟩
    ·rw [if_neg c4] at H
     have c4b0 : decide ((l0.length : Int) ≤ (wrap64 (a1 + (wrap64 (x5_1 + 8))))) = false := decide_eq_false c4
     clear c4
     replace H := Option.bind_eq_some_iff.mp H
     obtain ⟨t216, A50, H⟩ := H
     replace H : (if t216 ≥ 8 then (some (wrap64 (x5_1 + 8))) else (marquetryref11_packs.l0 k1 l0 a1 (wrap64 (x5_1 + 8)))) = some r := H
     have A5 := Aside0.mk A50
     clear A50
     by_cases c6 : t216 ≥ 8
     ·rw [if_pos c6] at H
      have c6b0 : decide (8 ≤ t216) = true := decide_eq_true c6
      clear c6
      obtain rfl := Option.some.inj H
      go_wp2_with (first | ((with_reducible refine gate_callee (f := 57) rfl ?_); refine goesL_ (some 28) rfl rfl Try.func57 (by kernel_rfl) rfl #[.slice A0 l0.length c0, .int .i64 (wrap64 (a1 + (wrap64 (x5_1 + 8))))] rfl (by (try simp only [List.map_toArray, List.map_cons, List.map_nil]); first | done | rfl | (simp only [List.length_drop, List.length_take]; rfl)) ?_; (with_reducible refine (marquetryref11_same.calls k1 _ _ l0 (wrap64 (a1 + (wrap64 (x5_1 + 8)))) t216 _ ?side1 ?side2 A5.out).mono ?_); (case side1 => repeat (first | exact HR0.out | (with_reducible refine Kd.C_alloc ?_ _) | (with_reducible refine Kd.C_drewN ?_ _) | (with_reducible refine Kd.C_drew ?_))); (case side2 => exact HC0.out); rintro e w' ⟨rfl, ⟨nd, rfl⟩⟩; refine ⟨_, rfl, ?_⟩))
      go_ret
      exact ⟨by first | rfl | (simp; done) | (simp [*]; done), by repeat (first | exact Drawn0.refl _ | apply Drawn0.step)⟩
     ·rw [if_neg c6] at H
      have c6b0 : decide (8 ≤ t216) = false := decide_eq_false c6
      clear c6
      have H' := Aside0.mk H
      clear H
      go_wp2_with (first | ((with_reducible refine gate_callee (f := 57) rfl ?_); refine goesL_ (some 28) rfl rfl Try.func57 (by kernel_rfl) rfl #[.slice A0 l0.length c0, .int .i64 (wrap64 (a1 + (wrap64 (x5_1 + 8))))] rfl (by (try simp only [List.map_toArray, List.map_cons, List.map_nil]); first | done | rfl | (simp only [List.length_drop, List.length_take]; rfl)) ?_; (with_reducible refine (marquetryref11_same.calls k1 _ _ l0 (wrap64 (a1 + (wrap64 (x5_1 + 8)))) t216 _ ?side1 ?side2 A5.out).mono ?_); (case side1 => repeat (first | exact HR0.out | (with_reducible refine Kd.C_alloc ?_ _) | (with_reducible refine Kd.C_drewN ?_ _) | (with_reducible refine Kd.C_drew ?_))); (case side2 => exact HC0.out); rintro e w' ⟨rfl, ⟨nd, rfl⟩⟩; refine ⟨_, rfl, ?_⟩))
      go_roundg k1
      case measure => have := HK1.out; omega
      case rel => exact ⟨(wrap64 (x5_1 + 8)), (by first | rfl | (simp; done) | (simp [*]; done)), H', ⟨by have := HK1.out; omega⟩, by repeat (first | exact Drawn0.refl _ | apply Drawn0.step)⟩
   ·rw [if_neg c3] at H
    have c3b0 : decide ((wrap64 (a1 + x5_1)) < (l0.length : Int)) = false := decide_eq_false c3
    clear c3
    obtain rfl := Option.some.inj H
    go_wp2
    go_ret
    exact ⟨by first | rfl | (simp; done) | (simp [*]; done), by repeat (first | exact Drawn0.refl _ | apply Drawn0.step)⟩
end Go.Proofs.Ytpibhiacmceekaa.X
end

section
namespace Go.Proofs.Ytpibhiacmceekaa.X
open Go.RowKit Go.Proofs.YtpibhiacmceekaaW.PrintWords Go.Proofs.YtpibhiacmceekaaW.PrintLast Go.Proofs.YtpibhiacmceekaaW.PrintMore
attribute [local go_sem] max2_int min2_int max_two min_two max_three min_three max_four min_four
set_option linter.unusedVariables false
set_option linter.unusedSimpArgs false
def marquetryref01_Size.j0 : Nat → Int → Int → Bool → Option (Int × Int)
 | 0, _, _, _ => none
 | k + 1, x0, x1, x15 => if x15 = true then (some (0, 2)) else (if x1 > 1048576 then (some (0, 3)) else (if (wrap64 (Int.tdiv (wrap64 ((wrap64 (x1 * x0)) + 7)) 8)) > 1048576 then (some (0, 3)) else (some (wrap64 (Int.tdiv (wrap64 ((wrap64 (x1 * x0)) + 7)) 8), 0))))
def marquetryref01_Size.f (k : Nat) (a0 : Int) (a1 : Int) : Option (Int × Int) := if a0 < 0 then (marquetryref01_Size.j0 k a0 a1 true) else (if a0 > 64 then (marquetryref01_Size.j0 k a0 a1 true) else (marquetryref01_Size.j0 k a0 a1 (decide (a1 < 0))))
theorem marquetryref01_Size.mono_l : ∀ k, (∀ y0 y1 y2, LeO (marquetryref01_Size.j0 k y0 y1 y2) (marquetryref01_Size.j0 (k + 1) y0 y1 y2))
 | 0 => fun _ _ _ r h => by simp [marquetryref01_Size.j0] at h
 | k + 1 => by
  have ih0 := marquetryref01_Size.mono_l k
  ·intro y0 y1 y2
   unfold marquetryref01_Size.j0
   repeat' first
   | (with_reducible exact ih0 _ _ _)
   | (with_reducible exact LeO.refl _)
   | (with_reducible exact LeO.none _)
   | (with_reducible refine LeO.ite ?_ ?_)
   | (with_reducible refine LeO.bind ?_ (fun _ => ?_))
   | exact ih0 _ _ _
   | exact LeO.none _
   | refine LeO.ite ?_ ?_
   | refine LeO.bind ?_ (fun _ => ?_)
theorem marquetryref01_Size.mono : ∀ a0 a1 k, LeO (marquetryref01_Size.f k a0 a1) (marquetryref01_Size.f (k + 1) a0 a1) := by
 intro a0 a1 k
 have ih0 := marquetryref01_Size.mono_l k
 unfold marquetryref01_Size.f
 repeat' first
   | (with_reducible exact ih0 _ _ _)
   | (with_reducible exact LeO.refl _)
   | (with_reducible exact LeO.none _)
   | (with_reducible refine LeO.ite ?_ ?_)
   | (with_reducible refine LeO.bind ?_ (fun _ => ?_))
   | exact ih0 _ _ _
   | exact LeO.none _
   | refine LeO.ite ?_ ?_
   | refine LeO.bind ?_ (fun _ => ?_)
set_option maxHeartbeats 8000000 in
set_option maxRecDepth 100000 in
theorem marquetryref01_Size.calls (k : Nat) (a0 : Int) (a1 : Int) (r1 : Int) (r2 : Int) (w : World) (h : marquetryref01_Size.f k a0 a1 = some (r1, r2)) :
  Calls Try.prog 70 #[.int .i64 a0, .int .i64 a1] w fun e w' => e = .returned (.tuple #[.int .i64 r1, .int .i64 r2]) ∧ Drawn0 w w' := by
 have H : (if a0 < 0 then (marquetryref01_Size.j0 k a0 a1 true) else (if a0 > 64 then (marquetryref01_Size.j0 k a0 a1 true) else (marquetryref01_Size.j0 k a0 a1 (decide (a1 < 0))))) = some (r1, r2) := h
 clear h
 have HC3 := Aside0.mk H
 clear H
 go_enter Try.func70, Try.ntmps70
 go_upto_region 1 with (fail)
 go_cut [15] (fun v15 wc => ∃ (kq : Nat) (x15_2 : Bool), v15 = .bool x15_2 ∧ Aside0 (marquetryref01_Size.j0 kq a0 a1 x15_2 = some (r1, r2)) ∧ Aside0 (kq ≤ k) ∧ Drawn0 w wc)
 case first =>
  have H := HC3.out
  clear HC3
  by_cases c4 : a0 < 0
  ·rw [if_pos c4] at H
   have c4b0 : decide (a0 < 0) = true := decide_eq_true c4
   clear c4
   (first | rw [c4b0] | (simp only [i64_w, i32_w]; rw [c4b0]) | skip)
   have H' := Aside0.mk H
   clear H
   go_wp2
   go_meet
   case rel => exact ⟨_, (true), (by first | rfl | (simp; done) | (simp [*]; done)), H', ⟨by first | omega | exact Nat.le_refl _⟩, by repeat (first | exact Drawn0.refl _ | apply Drawn0.step)⟩
  ·rw [if_neg c4] at H
   have c4b0 : decide (a0 < 0) = false := decide_eq_false c4
   clear c4
   (first | rw [c4b0] | (simp only [i64_w, i32_w]; rw [c4b0]) | skip)
   by_cases c5 : a0 > 64
   ·rw [if_pos c5] at H
    have c5b0 : decide (64 < a0) = true := decide_eq_true c5
    clear c5
    have H' := Aside0.mk H
    clear H
    go_wp2
    go_meet
    case rel => exact ⟨_, (true), (by first | rfl | (simp; done) | (simp [*]; done)), H', ⟨by first | omega | exact Nat.le_refl _⟩, by repeat (first | exact Drawn0.refl _ | apply Drawn0.step)⟩
   ·rw [if_neg c5] at H
    have c5b0 : decide (64 < a0) = false := decide_eq_false c5
    clear c5
    have H' := Aside0.mk H
    clear H
    go_wp2
    go_meet
    case rel => exact ⟨_, (decide (a1 < 0)), (by first | rfl | (simp; done) | (simp [*]; done)), H', ⟨by first | omega | exact Nat.le_refl _⟩, by repeat (first | exact Drawn0.refl _ | apply Drawn0.step)⟩
 case rest =>
  clear HC3
  try clear p2
  try clear c4
  try clear c4b0
  try clear c5
  try clear c5b0
  obtain ⟨kq, x15_2, rfl, HA, HJ2, ⟨mc2, rfl⟩⟩ := hcut
  cases kq with
  | zero => exact absurd HA.out (by simp [marquetryref01_Size.j0])
  | succ kj2 =>
   have H := HA.out
   clear HA
   simp only [marquetryref01_Size.j0] at H
   by_cases c6 : x15_2 = true
   ·subst c6
    have H1 : (some (0, 2)) = some (r1, r2) := by rw [if_pos rfl] at H; exact H
    clear H
    have H := H1
    clear H1
    simp only [Option.some.injEq, Prod.mk.injEq] at H
    obtain ⟨rfl, rfl⟩ := H
    go_wp2
    go_ret2
    exact ⟨by first | rfl | (simp; done) | (simp [*]; done), by repeat (first | exact Drawn0.refl _ | apply Drawn0.step)⟩
   ·replace c6 := Bool.eq_false_iff.mpr c6
    subst c6
    have H1 : (if a1 > 1048576 then (some (0, 3)) else (if (wrap64 (Int.tdiv (wrap64 ((wrap64 (a1 * a0)) + 7)) 8)) > 1048576 then (some (0, 3)) else (some (wrap64 (Int.tdiv (wrap64 ((wrap64 (a1 * a0)) + 7)) 8), 0)))) = some (r1, r2) := by rw [if_neg (show ¬ (false = true) by decide)] at H; exact H
    clear H
    have H := H1
    clear H1
    by_cases c7 : a1 > 1048576
    ·rw [if_pos c7] at H
     have c7b0 : decide (1048576 < a1) = true := decide_eq_true c7
     clear c7
     simp only [Option.some.injEq, Prod.mk.injEq] at H
     obtain ⟨rfl, rfl⟩ := H
     go_wp2
     go_ret2
     exact ⟨by first | rfl | (simp; done) | (simp [*]; done), by repeat (first | exact Drawn0.refl _ | apply Drawn0.step)⟩
    ·rw [if_neg c7] at H
     have c7b0 : decide (1048576 < a1) = false := decide_eq_false c7
     clear c7
     by_cases c8 : (wrap64 (Int.tdiv (wrap64 ((wrap64 (a1 * a0)) + 7)) 8)) > 1048576
     ·rw [if_pos c8] at H
      have c8b0 : decide (1048576 < (wrap64 (Int.tdiv (wrap64 ((wrap64 (a1 * a0)) + 7)) 8))) = true := decide_eq_true c8
      clear c8
      simp only [Option.some.injEq, Prod.mk.injEq] at H
      obtain ⟨rfl, rfl⟩ := H
      go_wp2
      go_ret2
      exact ⟨by first | rfl | (simp; done) | (simp [*]; done), by repeat (first | exact Drawn0.refl _ | apply Drawn0.step)⟩
     ·rw [if_neg c8] at H
      have c8b0 : decide (1048576 < (wrap64 (Int.tdiv (wrap64 ((wrap64 (a1 * a0)) + 7)) 8))) = false := decide_eq_false c8
      clear c8
      simp only [Option.some.injEq, Prod.mk.injEq] at H
      obtain ⟨rfl, rfl⟩ := H
      go_wp2
      go_ret2
      exact ⟨by first | rfl | (simp; done) | (simp [*]; done), by repeat (first | exact Drawn0.refl _ | apply Drawn0.step)⟩
end Go.Proofs.Ytpibhiacmceekaa.X
end

section
namespace Go.Proofs.Ytpibhiacmceekaa.X
open Go.RowKit Go.Proofs.YtpibhiacmceekaaW.PrintWords Go.Proofs.YtpibhiacmceekaaW.PrintLast Go.Proofs.YtpibhiacmceekaaW.PrintMore
attribute [local go_sem] max2_int min2_int max_two min_two max_three min_three max_four min_four
set_option linter.unusedVariables false
set_option linter.unusedSimpArgs false
def marquetryref01_powers.l0 : Nat → Int → Int → Int → Option (Int)
 | 0, _, _, _ => none
 | k + 1, x0, x3, x4 => if x4 < x0 then (marquetryref01_powers.l0 k x0 ((x3 * 2) % 256) (wrap64 (x4 + 1))) else (some x3)
def marquetryref01_powers.f (k : Nat) (a0 : Int) : Option (Int) := marquetryref01_powers.l0 k a0 1 0
theorem marquetryref01_powers.mono_l : ∀ k, (∀ y0 y1 y2, LeO (marquetryref01_powers.l0 k y0 y1 y2) (marquetryref01_powers.l0 (k + 1) y0 y1 y2))
 | 0 => fun _ _ _ r h => by simp [marquetryref01_powers.l0] at h
 | k + 1 => by
  have ih0 := marquetryref01_powers.mono_l k
  ·intro y0 y1 y2
   unfold marquetryref01_powers.l0
   repeat' first
   | (with_reducible exact ih0 _ _ _)
   | (with_reducible exact LeO.refl _)
   | (with_reducible exact LeO.none _)
   | (with_reducible refine LeO.ite ?_ ?_)
   | (with_reducible refine LeO.bind ?_ (fun _ => ?_))
   | exact ih0 _ _ _
   | exact LeO.none _
   | refine LeO.ite ?_ ?_
   | refine LeO.bind ?_ (fun _ => ?_)
theorem marquetryref01_powers.mono : ∀ a0 k, LeO (marquetryref01_powers.f k a0) (marquetryref01_powers.f (k + 1) a0) := by
 intro a0 k
 have ih0 := marquetryref01_powers.mono_l k
 unfold marquetryref01_powers.f
 repeat' first
   | (with_reducible exact ih0 _ _ _)
   | (with_reducible exact LeO.refl _)
   | (with_reducible exact LeO.none _)
   | (with_reducible refine LeO.ite ?_ ?_)
   | (with_reducible refine LeO.bind ?_ (fun _ => ?_))
   | exact ih0 _ _ _
   | exact LeO.none _
   | refine LeO.ite ?_ ?_
   | refine LeO.bind ?_ (fun _ => ?_)
set_option maxHeartbeats 8000000 in
set_option maxRecDepth 100000 in
theorem marquetryref01_powers.calls (k : Nat) (a0 : Int) (r : Int) (w : World) (h : marquetryref01_powers.f k a0 = some r) :
  Calls Try.prog 71 #[.int .i64 a0] w fun e w' => e = .returned (.int .u8 r) ∧ Drawn0 w w' := by
 have H : (marquetryref01_powers.l0 k a0 1 0) = some r := h
 clear h
 have H' := Aside0.mk H
 clear H
 go_enter Try.func71, Try.ntmps71
 go_wp2
 go_loopg [3, 4] k (fun kq v3 v4 w' => ∃ (x3_1 : Int) (x4_1 : Int), v3 = .int .u8 x3_1 ∧ v4 = .int .i64 x4_1 ∧ Aside0 (marquetryref01_powers.l0 kq a0 x3_1 x4_1 = some r) ∧ Aside0 (kq ≤ k) ∧ Drawn0 w w')
 case atStart => exact ⟨(1), (0), (by first | rfl | (simp; done) | (simp [*]; done)), (by first | rfl | (simp; done) | (simp [*]; done)), H', ⟨Nat.le_refl _⟩, by repeat (first | exact Drawn0.refl _ | apply Drawn0.step)⟩
 case round =>
  clear H'
  obtain ⟨x3_1, x4_1, rfl, rfl, HA, HK1, ⟨m1, rfl⟩⟩ := hrel
  cases gk with
  | zero => exact absurd HA.out (by simp [marquetryref01_powers.l0])
  | succ k1 =>
   have H := HA.out
   clear HA
   simp only [marquetryref01_powers.l0] at H
   by_cases c2 : x4_1 < a0
   ·rw [if_pos c2] at H
    have c2b0 : decide (x4_1 < a0) = true := decide_eq_true c2
    clear c2
    have H' := Aside0.mk H
    clear H
    go_wp2
    go_roundg k1
    case measure => have := HK1.out; omega
    case rel => exact ⟨((x3_1 * 2) % 256), (wrap64 (x4_1 + 1)), (by first | rfl | (simp; done) | (simp [*]; done)), (by first | rfl | (simp; done) | (simp [*]; done)), H', ⟨by have := HK1.out; omega⟩, by repeat (first | exact Drawn0.refl _ | apply Drawn0.step)⟩
   ·rw [if_neg c2] at H
    have c2b0 : decide (x4_1 < a0) = false := decide_eq_false c2
    clear c2
    obtain rfl := Option.some.inj H
    go_wp2
    go_ret
    exact ⟨by first | rfl | (simp; done) | (simp [*]; done), by repeat (first | exact Drawn0.refl _ | apply Drawn0.step)⟩
end Go.Proofs.Ytpibhiacmceekaa.X
end
