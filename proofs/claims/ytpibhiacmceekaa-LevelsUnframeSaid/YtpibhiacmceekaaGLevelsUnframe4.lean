/- LevelsUnframe: texts of this seat in one (wip/merge.py): L20p, L11c, L20r, L11s, PureLevelsRead, Rd. -/
import Derived.Test.YtpibhiacmceekaaGLevelsUnframe1
import Derived.Test.YtpibhiacmceekaaGLevelsUnframe0
import Derived.Test.YtpibhiacmceekaaGLevelsUnframe3
import Derived.Test.YtpibhiacmceekaaGLevelsUnframe2
import Derived.Test.YtpibhiacmceekaaWMore
import Derived.Deep.Slices
import Derived.Lib.SmallJoins
import Derived.SizedLaws
namespace Go.Proofs.Ytpibhiacmceekaa.L11
set_option linter.unusedVariables false
set_option linter.unusedSimpArgs false
open Go.RowKit Go.Proofs.Ytpibhiacmceekaa.X Go.Proofs.YtpibhiacmceekaaW.PrintWords Go.Proofs.YtpibhiacmceekaaW.PrintLast Go.Proofs.YtpibhiacmceekaaW.PrintMore Go.Proofs.Ytpibhiacmceekaa.Bx Go.Proofs.Ytpibhiacmceekaa.Nx Go.Proofs.Ytpibhiacmceekaa.L1 Go.Proofs.Ytpibhiacmceekaa.Px

def LevReadR (b : List Int) (m n : Int) : List Int × Int :=
  if m < 0 then ([], 2) else if 255 < m then ([], 2) else if n < 0 then ([], 2) else if 65536 < n then ([], 3) else if 1048576 < (b.length : Int) then ([], 3) else
    if m = 0 then (if 0 < (b.length : Int) then ([], 7) else (List.replicate n.toNat 0, 0)) else
      if (ReadR b ((wd m.toNat : Nat) : Int) n).2 = 0 then (if (ReadR b ((wd m.toNat : Nat) : Int) n).1.any (fun x => decide (m < x)) = true then ([], 4) else ((ReadR b ((wd m.toNat : Nat) : Int) n).1, 0)) else ([], (ReadR b ((wd m.toNat : Nat) : Int) n).2)
theorem lev_read {b : List Int} (hb : ∀ x ∈ b, 0 ≤ x ∧ x ≤ 255) {m n : Int} {k : Nat} (hk : 65700 ≤ k) : levels_Read.f k b m n = some (LevReadR b m n) := by
  unfold levels_Read.f LevReadR
  rw [read hb hk, Option.bind_some]
  by_cases c1 : m < 0
  · rw [if_pos c1, if_pos c1]
  rw [if_neg c1, if_neg c1]
  by_cases c2 : 255 < m
  · rw [if_pos c2, if_pos c2]
  rw [if_neg c2, if_neg c2]
  by_cases c3 : n < 0
  · rw [if_pos c3, if_pos c3]
  rw [if_neg c3, if_neg c3]
  by_cases c4 : 65536 < n
  · rw [if_pos c4, if_pos c4]
  rw [if_neg c4, if_neg c4]
  by_cases c5 : 1048576 < (b.length : Int)
  · rw [if_pos c5, if_pos c5]
  rw [if_neg c5, if_neg c5]
  by_cases c6 : m = 0
  · rw [if_pos c6, if_pos c6]
    by_cases c7 : 0 < (b.length : Int)
    · rw [if_pos c7, if_pos c7]
    · rw [if_neg c7, if_neg c7]
  rw [if_neg c6, if_neg c6]
  by_cases c8 : (ReadR b ((wd m.toNat : Nat) : Int) n).2 = 0
  · rw [if_pos c8, if_pos c8]
    by_cases c9 : (ReadR b ((wd m.toNat : Nat) : Int) n).1.any (fun x => decide (m < x)) = true
    · rw [if_pos c9, if_pos c9]
    · rw [if_neg c9, if_neg c9]
  · rw [if_neg c8, if_neg c8]
theorem part_len2 {b : List Int} (hb : ∀ x ∈ b, 0 ≤ x ∧ x ≤ 255) (hl : b.length ≤ 1048576) {W : Nat} (hW : W ≤ 32) {count : Int} (hc : count ≤ 65536) : ∀ (f : Nat) (l : List Int) (a : Int), (l.length : Int) ≤ max 0 count → 0 ≤ a → a ≤ b.length → ((partS b (W : Int) count f l a).2.1.length : Int) ≤ max 0 count
  | 0, l, a, h, _, _ => h
  | f + 1, l, a, h, ha, ha1 => by
    rw [partS]
    by_cases c : (l.length : Int) < count
    · rw [if_pos c]
      by_cases e : (rvS b a).2.2 = 0
      · rw [if_pos e]
        by_cases d : 2 ≤ (rvS b a).1 ∧ (rvS b a).1 ≤ 4194304
        · rw [if_pos d]
          by_cases g : (oneS b (W : Int) count l a).1 = 0
          · obtain ⟨p1, p2, p3, p4⟩ := one_ok hb hl hW hc c ha ha1 e d.1 d.2 g
            rw [if_pos g]
            exact part_len2 hb hl hW hc f _ _ (by omega) p3 p4
          · rw [if_neg g]; simp; omega
        · rw [if_neg d]; simp; omega
      · rw [if_neg e]; simp; omega
    · rw [if_neg c]; exact h
theorem ReadR_len {b : List Int} (hb : ∀ x ∈ b, 0 ≤ x ∧ x ≤ 255) (W count : Int) : (ReadR b W count).1.length ≤ 65536 := by
  unfold ReadR
  by_cases c : (PartR b W count).1 = 0
  · simp only [c, if_true]
    split
    · simp
    · unfold PartR
      split
      · simp
      split
      · simp
      split
      · simp
      split
      · simp
      split
      · simp
      obtain ⟨V, rfl⟩ := Int.eq_ofNat_of_zero_le (show 0 ≤ W by omega)
      have := part_len2 hb (by omega) (W := V) (by omega) (count := count) (by omega) count.toNat [] 0 (by simp; omega) (by omega) (by omega)
      omega
  · simp only [c, if_false]; simp
def UnframeR (b : List Int) (m n : Int) : List Int × Int × Int :=
  if m < 0 then ([], 0, 2) else if 255 < m then ([], 0, 2) else if n < 0 then ([], 0, 2) else if 65536 < n then ([], 0, 3) else if 1048576 < (b.length : Int) then ([], 0, 3) else
    if m = 0 then (List.replicate n.toNat 0, 0, 0) else
      if (b.length : Int) < 4 then ([], 0, 6) else if (b.length : Int) - 4 < (ReadLittleR b 0 4).1 then ([], 0, 6) else
        if (LevReadR ((b.take (4 + (ReadLittleR b 0 4).1).toNat).drop 4) m n).2 = 0 then ((LevReadR ((b.take (4 + (ReadLittleR b 0 4).1).toNat).drop 4) m n).1, 4 + (ReadLittleR b 0 4).1, 0) else ([], 0, (LevReadR ((b.take (4 + (ReadLittleR b 0 4).1).toNat).drop 4) m n).2)
theorem rl4 {b : List Int} : (ReadLittleR b 0 4).2 = 0 ↔ 4 ≤ (b.length : Int) := by
  unfold ReadLittleR
  rw [if_neg (by omega)]
  by_cases c : (4 : Int) > (b.length : Int) - 0
  · rw [if_pos c]; simp; omega
  · rw [if_neg c]; simp; omega
theorem right_f (m : Int) : levels_right.f m = some (decide (0 ≤ m) && decide (m ≤ 255)) := by
  unfold levels_right.f
  by_cases c : m ≥ 0
  · rw [if_pos c, show decide (0 ≤ m) = true from decide_eq_true c]; rfl
  · rw [if_neg c, show decide (0 ≤ m) = false from decide_eq_false c]; rfl
theorem unframe {b : List Int} (hb : ∀ x ∈ b, 0 ≤ x ∧ x ≤ 255) {m n : Int} {k : Nat} (hk : 65710 ≤ k) (hl : b.length ≤ 100000000) : levels_Unframe.f k b m n = some (UnframeR b m n) := by
  obtain ⟨k, rfl⟩ : ∃ j, k = j + 1 + 1 + 1 := ⟨k - 3, by omega⟩
  unfold levels_Unframe.f UnframeR
  rw [right_f, Option.bind_some]
  by_cases c1 : m < 0
  · rw [if_pos c1, decide_eq_false (show ¬ 0 ≤ m by omega), Bool.false_and, if_neg (by decide), levels_Unframe.j0, if_pos rfl]
  rw [if_neg c1, decide_eq_true (show 0 ≤ m by omega), Bool.true_and]
  by_cases c2 : 255 < m
  · rw [if_pos c2, decide_eq_false (show ¬ m ≤ 255 by omega), if_neg (by decide), levels_Unframe.j0, if_pos rfl]
  rw [if_neg c2, decide_eq_true (show m ≤ 255 by omega), if_pos rfl]
  by_cases c3 : n < 0
  · rw [decide_eq_true c3, if_pos c3, levels_Unframe.j0, if_pos rfl]
  rw [decide_eq_false c3, if_neg c3, levels_Unframe.j0, if_neg (by decide)]
  by_cases c4 : 65536 < n
  · rw [if_pos c4, if_pos c4, levels_Unframe.j1, if_pos rfl]
  rw [if_neg c4, if_neg c4]
  by_cases c5 : 1048576 < (b.length : Int)
  · rw [show decide ((b.length : Int) > 1048576) = true from decide_eq_true c5, if_pos c5, levels_Unframe.j1, if_pos rfl]
  rw [show decide ((b.length : Int) > 1048576) = false from decide_eq_false c5, if_neg c5, levels_Unframe.j1, if_neg (by decide)]
  by_cases c6 : m = 0
  · rw [if_pos c6, if_pos c6, if_pos (by omega), if_pos (by omega)]
  rw [if_neg c6, if_neg c6, readLittle (by omega) hb (by omega) (by omega), Option.bind_some]
  by_cases c7 : (b.length : Int) < 4
  · rw [if_neg (by rw [rl4]; omega), if_pos c7, levels_Unframe.j2, if_pos rfl]
  · have h0 := readLittle_nonneg hb 0 4
    obtain ⟨v, hv⟩ : ∃ v, v = (ReadLittleR b 0 4).1 := ⟨_, rfl⟩
    rw [← hv] at h0
    have hw : IntKind.u64.wrap (wrap64 ((b.length : Int) - 4)) = (b.length : Int) - 4 := by rw [w64 (by omega) (by omega), u64w]; omega
    rw [if_pos (rl4.2 (by omega)), if_neg c7, ← hv, hw]
    clear hw
    by_cases c8 : (b.length : Int) - 4 < v
    · rw [show decide (v > (b.length : Int) - 4) = true from decide_eq_true c8, if_pos c8, levels_Unframe.j2, if_pos rfl]
    · have hu : IntKind.u64.wrap (4 + v) = 4 + v := by rw [u64w]; omega
      rw [show decide (v > (b.length : Int) - 4) = false from decide_eq_false c8, if_neg c8, levels_Unframe.j2, if_neg (by decide), hu]
      clear hu
      rw [if_pos (by omega), if_pos (by omega), lev_read (fun x h => hb x (mid_mem h)) (by omega), Option.bind_some]
      have hw1 : wrap64 v = v := w64 (by omega) (by omega)
      rw [hw1, w64 (a := 4 + v) (by omega) (by omega)]
      split <;> rfl
end Go.Proofs.Ytpibhiacmceekaa.L11

namespace Go.Proofs.Ytpibhiacmceekaa.L11
set_option linter.unusedVariables false
set_option linter.unusedSimpArgs false
open Go.RowKit Go.Proofs.Ytpibhiacmceekaa.X Go.Proofs.YtpibhiacmceekaaW.PrintWords Go.Proofs.YtpibhiacmceekaaW.PrintLast Go.Proofs.YtpibhiacmceekaaW.PrintMore Go.Proofs.Ytpibhiacmceekaa.Bx Go.Proofs.Ytpibhiacmceekaa.Nx Go.Proofs.Ytpibhiacmceekaa.L1 Go.Proofs.Ytpibhiacmceekaa.Px

theorem rf_half {h : Int} (h0 : 0 ≤ h) (h1 : h < 18446744073709551616) : IntKind.u64.wrap (Int.tdiv h 2) = h / 2 := by
  rw [Int.tdiv_eq_ediv_of_nonneg h0, u64w]; omega
theorem rf_odd {h : Int} (h0 : 0 ≤ h) : Int.tmod h 2 = h % 2 := Int.tmod_eq_emod_of_nonneg h0
theorem rf_left {c : Int} {m : Nat} (h0 : (m : Int) < c) (h1 : c ≤ 65536) : IntKind.u64.wrap (wrap64 (c - (m : Int))) = c - m := by
  rw [w64 (by omega) (by omega), u64w]; omega
theorem rf_eighth {x : Int} (h0 : 0 ≤ x) (h1 : x ≤ 65536) : IntKind.u64.wrap (Int.tdiv (IntKind.u64.wrap (x + 7)) 8) = (x + 7) / 8 := by
  have : IntKind.u64.wrap (x + 7) = x + 7 := by rw [u64w]; omega
  rw [this, Int.tdiv_eq_ediv_of_nonneg (by omega), u64w]; omega
theorem rf_at {q s : Int} (h0 : 0 ≤ q) (h1 : 0 ≤ s) (h2 : q + s ≤ 1000000000) : wrap64 (q + s) = q + s := w64 (by omega) (by omega)
/-- A repeated run's numbers. -/
theorem rf_l1 (k : Nat) (b : List Int) (W count : Int) (rs : List _) (q n s x : Int) (hn : n ≤ 65536) (hx0 : 0 ≤ x) (hx1 : x ≤ 4294967295) (hrs : rs.length ≤ 1000000) : ∀ (d : Nat) (j : Int) (l : List Int), j + d = n → 0 ≤ j → l.length + d ≤ 1000000 →
    ∃ rs', rs'.length = rs.length + 1 ∧ marquetryref11_Part.l1 (k + d + 1) b W count l rs q n s x j = marquetryref11_Part.l0 k b W count (l ++ List.replicate d x) rs' (wrap64 (q + s))
  | 0, j, l, hj, hj0, hl => by
    refine ⟨rs ++ [⟨false, wrap64 n⟩], by simp, ?_⟩
    rw [marquetryref11_Part.l1, if_neg (by omega), if_pos (by omega), List.replicate_zero, List.append_nil]
  | d + 1, j, l, hj, hj0, hl => by
    obtain ⟨rs', h1, h2⟩ := rf_l1 k b W count rs q n s x hn hx0 hx1 hrs d (j + 1) (l ++ [x]) (by omega) (by omega) (by simp; omega)
    refine ⟨rs', h1, ?_⟩
    have e1 : wrap64 x = x := w64 (by omega) (by omega)
    have e2 : IntKind.u64.wrap (j + 1) = j + 1 := by rw [u64w]; omega
    rw [show k + (d + 1) + 1 = (k + d + 1) + 1 by omega, marquetryref11_Part.l1, if_pos (by omega), if_pos (by omega), e1, e2, h2, List.replicate_succ, List.append_assoc]; rfl
/-- A packed run's numbers. -/
theorem rf_l2 (k : Nat) (b : List Int) (W count : Int) (rs : List _) (q left n s : Int) (u : List Int) (hu : ∀ x ∈ u, 0 ≤ x ∧ x ≤ 4294967295) (hul : u.length ≤ 1000000) (hleft : left ≤ 65536) (hrs : rs.length ≤ 1000000) : ∀ (d i : Nat) (l : List Int), i + d = u.length → l.length + d ≤ 2000000 →
    ((putS left (u.drop i) (i : Int) l).1 = 0 → ∃ rs', rs'.length = rs.length + 1 ∧ marquetryref11_Part.l2 (k + 2 * d + 1) b W count l rs q left n s u (i : Int) = marquetryref11_Part.l0 k b W count (putS left (u.drop i) (i : Int) l).2 rs' (wrap64 (q + s))) ∧
    ((putS left (u.drop i) (i : Int) l).1 ≠ 0 → marquetryref11_Part.l2 (k + 2 * d + 1) b W count l rs q left n s u (i : Int) = some ([], [], 0, 8))
  | 0, i, l, hi, hl => by
    rw [List.drop_eq_nil_of_le (by omega)]
    refine ⟨fun _ => ⟨rs ++ [⟨true, wrap64 (mn left (IntKind.u64.wrap (8 * n)))⟩], by simp, ?_⟩, fun h => absurd rfl h⟩
    rw [marquetryref11_Part.l2, if_neg (by omega), if_pos (by omega)]; rfl
  | d + 1, i, l, hi, hl => by
    have hr : rd u (i : Int) = u.getD i 0 := rfl
    have hx : 0 ≤ u.getD i 0 ∧ u.getD i 0 ≤ 4294967295 := by
      rw [List.getD_eq_getElem?_getD, List.getElem?_eq_getElem (by omega)]; exact hu _ (List.getElem_mem (by omega))
    have e1 : IntKind.u64.wrap (i : Int) = (i : Int) := by rw [u64w]; omega
    rw [drop_cons (l := u) (i := i) (by omega), putS, show k + 2 * (d + 1) + 1 = (k + 2 * d + 1) + 1 + 1 by omega]
    obtain ⟨x, hxx⟩ : ∃ x, x = u.getD i 0 := ⟨_, rfl⟩
    rw [← hxx] at hx hr ⊢
    by_cases c : (i : Int) < left
    · have ih := rf_l2 k b W count rs q left n s u hu hul hleft hrs d (i + 1) (l ++ [x]) (by omega) (by simp; omega)
      have step : marquetryref11_Part.l2 ((k + 2 * d + 1) + 1 + 1) b W count l rs q left n s u (i : Int) = marquetryref11_Part.l2 (k + 2 * d + 1) b W count (l ++ [x]) rs q left n s u ((i + 1 : Nat) : Int) := by
        have e2 : wrap64 x = x := w64 (by omega) (by omega)
        rw [marquetryref11_Part.l2, if_pos (by omega), e1, if_neg (by omega), marquetryref11_Part.j7, if_neg (by decide), e1, if_pos c, if_pos (by omega), if_pos (by omega), if_pos (by omega), hr, e2, w64s' (by omega)]
      rw [if_pos c, step]
      exact ih
    · have ih := rf_l2 k b W count rs q left n s u hu hul hleft hrs d (i + 1) l (by omega) (by omega)
      by_cases dz : x = 0
      · have step : marquetryref11_Part.l2 ((k + 2 * d + 1) + 1 + 1) b W count l rs q left n s u (i : Int) = marquetryref11_Part.l2 (k + 2 * d + 1) b W count l rs q left n s u ((i + 1 : Nat) : Int) := by
          rw [marquetryref11_Part.l2, if_pos (by omega), e1, if_pos (by omega), if_pos (by omega), hr, show (x != 0) = false by simp [dz], marquetryref11_Part.j7, if_neg (by decide), e1, if_neg c, w64s' (by omega)]
        rw [if_neg c, if_pos dz, step]
        exact ih
      · have step : marquetryref11_Part.l2 ((k + 2 * d + 1) + 1 + 1) b W count l rs q left n s u (i : Int) = some ([], [], 0, 8) := by
          rw [marquetryref11_Part.l2, if_pos (by omega), e1, if_pos (by omega), if_pos (by omega), hr, show (x != 0) = true by simp [dz], marquetryref11_Part.j7, if_pos rfl]
        rw [if_neg c, if_neg dz, step]
        exact ⟨fun h => absurd h (by decide), fun _ => rfl⟩
theorem rf_bytes {W : Nat} (hW : W ≤ 32) : wrap64 (Int.tdiv (wrap64 ((W : Int) + 7)) 8) = ((W : Int) + 7) / 8 := by
  have a1 : wrap64 ((W : Int) + 7) = (W : Int) + 7 := w64 (by omega) (by omega)
  rw [a1, Int.tdiv_eq_ediv_of_nonneg (by omega), w64 (by omega) (by omega)]
theorem rf_size {n W : Nat} (hn : n ≤ 8200) (hW : W ≤ 32) : wrap64 (wrap64 (n : Int) * (W : Int)) = (n : Int) * (W : Int) := by
  have hm : ((n : Int) * (W : Int)) = ((n * W : Nat) : Int) := (Int.natCast_mul _ _).symm
  have hq : n * W ≤ 8200 * 32 := Nat.mul_le_mul hn hW
  rw [w64 (a := (n : Int)) (by omega) (by omega), hm, w64 (by omega) (by omega)]
theorem rf_eight {n : Nat} (hn : n ≤ 8200) : wrap64 (wrap64 (n : Int) * 8) = 8 * (n : Int) := by
  rw [w64 (a := (n : Int)) (by omega) (by omega), w64 (by omega) (by omega)]; omega
theorem rf_sum {q n W : Nat} (hn : n ≤ 8200) (hW : W ≤ 32) (hq : q ≤ 1000000) : wrap64 ((q : Int) + (n : Int) * (W : Int)) = (q : Int) + (n : Int) * (W : Int) := by
  have hm : ((n : Int) * (W : Int)) = ((n * W : Nat) : Int) := (Int.natCast_mul _ _).symm
  have h : n * W ≤ 8200 * 32 := Nat.mul_le_mul hn hW
  rw [hm]; exact w64 (by omega) (by omega)
theorem rf_rest {b : List Int} {q : Int} (h0 : 0 ≤ q) (h1 : q ≤ b.length) (hl : b.length ≤ 100000) : wrap64 ((b.length : Int) - q) = (b.length : Int) - q := w64 (by omega) (by omega)
/-- One run, by the reference. -/
theorem rf_j4 {k : Nat} {b : List Int} (hb : ∀ x ∈ b, 0 ≤ x ∧ x ≤ 255) (hl : b.length ≤ 100000) {W : Nat} (hW : W ≤ 32) {count h q n left : Int} {l : List Int} {rs : List _} (hk : 100000100 ≤ k) (hq0 : 0 ≤ q) (hq1 : q ≤ b.length) (hh : 0 ≤ h) (he : h % 2 = 0) (hn0 : 0 ≤ n) (hn1 : n ≤ 65536) (hll : l.length ≤ 65536) (hrs : rs.length ≤ 1000000) (hnl : n ≤ left) :
    ((repS b (W : Int) n left l q).1 = 0 → ∃ rs', rs'.length = rs.length + 1 ∧ marquetryref11_Part.j4 (k + n.toNat + 1 + 1) b (W : Int) count l rs h q left n (wrap64 (Int.tdiv (wrap64 ((W : Int) + 7)) 8)) = marquetryref11_Part.l0 k b (W : Int) count (repS b (W : Int) n left l q).2.1 rs' (repS b (W : Int) n left l q).2.2) ∧
    ((repS b (W : Int) n left l q).1 ≠ 0 → marquetryref11_Part.j4 (k + n.toNat + 1 + 1) b (W : Int) count l rs h q left n (wrap64 (Int.tdiv (wrap64 ((W : Int) + 7)) 8)) = some ([], [], 0, (repS b (W : Int) n left l q).1)) := by
  unfold repS
  rw [if_pos hnl]
  by_cases d : ((W : Int) + 7) / 8 ≤ (b.length : Int) - q
  · have h0 := readLittle_nonneg hb q (((W : Int) + 7) / 8)
    have h1 := readLittle_u64 hb q (((W : Int) + 7) / 8)
    have step : marquetryref11_Part.j4 (k + n.toNat + 1 + 1) b (W : Int) count l rs h q left n (wrap64 (Int.tdiv (wrap64 ((W : Int) + 7)) 8)) = if ((wd (ReadLittleR b q (((W : Int) + 7) / 8)).1.toNat : Nat) : Int) > (W : Int) then some ([], [], 0, 8) else marquetryref11_Part.l1 (k + n.toNat + 1) b (W : Int) count l rs q n (((W : Int) + 7) / 8) (ReadLittleR b q (((W : Int) + 7) / 8)).1 0 := by
      rw [rf_bytes hW, marquetryref11_Part.j4, rf_rest hq0 hq1 hl, rf_odd hh, if_neg (by omega), if_pos he, ref_readLittle (by omega) hb (by omega) (by omega), Option.bind_some, ref_width (by omega) h0 h1, Option.bind_some]
    rw [step, if_pos d]
    by_cases e : (wd (ReadLittleR b q (((W : Int) + 7) / 8)).1.toNat : Int) ≤ (W : Int)
    · have g1 := wd_lt h0 (W := W) (by omega)
      have g2 := pow32 hW
      obtain ⟨rs', p1, p2⟩ := rf_l1 k b (W : Int) count rs q n (((W : Int) + 7) / 8) (ReadLittleR b q (((W : Int) + 7) / 8)).1 hn1 h0 (by omega) hrs n.toNat 0 l (by omega) (by omega) (by omega)
      rw [if_neg (show ¬ ((wd (ReadLittleR b q (((W : Int) + 7) / 8)).1.toNat : Nat) : Int) > (W : Int) by omega), if_pos e, p2, rf_at hq0 (by omega) (by omega)]
      exact ⟨fun _ => ⟨rs', p1, rfl⟩, fun h => absurd rfl h⟩
    · rw [if_pos (show ((wd (ReadLittleR b q (((W : Int) + 7) / 8)).1.toNat : Nat) : Int) > (W : Int) by omega), if_neg e]
      exact ⟨fun h => absurd h (by simp), fun _ => rfl⟩
  · have step : marquetryref11_Part.j4 (k + n.toNat + 1 + 1) b (W : Int) count l rs h q left n (wrap64 (Int.tdiv (wrap64 ((W : Int) + 7)) 8)) = some ([], [], 0, 6) := by
      rw [rf_bytes hW, marquetryref11_Part.j4, rf_rest hq0 hq1 hl, if_pos (by omega)]
    rw [step, if_neg d]
    exact ⟨fun h => absurd h (by simp), fun _ => rfl⟩
theorem rf_j4p {k : Nat} {b : List Int} (hb : ∀ x ∈ b, 0 ≤ x ∧ x ≤ 255) (hl : b.length ≤ 100000) {W : Nat} (hW : W ≤ 32) {count h : Int} {q n left : Nat} {l : List Int} {rs : List _} (hk : 100000100 ≤ k) (hq1 : q ≤ b.length) (hh : 0 ≤ h) (he : h % 2 = 1) (hleft : left ≤ 65536) (hll : l.length ≤ 65536) (hrs : rs.length ≤ 1000000) (hnl : (n : Int) ≤ ((left : Int) + 7) / 8) :
    ((pakS b (W : Int) n left l q).1 = 0 → ∃ rs', rs'.length = rs.length + 1 ∧ marquetryref11_Part.j4 (k + 2 * (8 * n) + 1 + 1) b (W : Int) count l rs h (q : Int) (left : Int) (n : Int) (wrap64 (wrap64 (n : Int) * (W : Int))) = marquetryref11_Part.l0 k b (W : Int) count (pakS b (W : Int) n left l q).2.1 rs' (pakS b (W : Int) n left l q).2.2) ∧
    ((pakS b (W : Int) n left l q).1 ≠ 0 → marquetryref11_Part.j4 (k + 2 * (8 * n) + 1 + 1) b (W : Int) count l rs h (q : Int) (left : Int) (n : Int) (wrap64 (wrap64 (n : Int) * (W : Int))) = some ([], [], 0, (pakS b (W : Int) n left l q).1)) := by
  have hm : ((n : Int) * (W : Int)) = ((n * W : Nat) : Int) := (Int.natCast_mul _ _).symm
  have hq : n * W ≤ 8192 * 32 := Nat.mul_le_mul (by omega) hW
  have hn8 : n ≤ 8200 := by omega
  have hq6 : q ≤ 1000000 := by omega
  unfold pakS
  rw [if_pos hnl]
  by_cases d : (n : Int) * (W : Int) ≤ (b.length : Int) - (q : Int)
  · have hfit : q + n * W ≤ b.length := by rw [hm] at d; omega
    obtain ⟨u, hu, hul, hur⟩ := pak_nums (b := b) (W := W) (n := n) (a := q) hW (by omega) hfit
    have hn5 : (q : Int) ≤ (q : Int) + (n : Int) * (W : Int) := by rw [hm]; omega
    have hn6 : (q : Int) + (n : Int) * (W : Int) ≤ (b.length : Int) := by rw [hm]; omega
    have hU : marquetryref01_Unpack.f (k + 2 * (8 * n) + 1) ((b.take (((q : Int) + (n : Int) * (W : Int)).toNat)).drop ((q : Int)).toNat) (W : Int) (8 * (n : Int)) = some (u, 0) := by
      rw [ref_unpack (fun x h => hb x (mid_mem h)) (by rw [List.length_drop, List.length_take]; omega) (by omega), hu]
    have h2 := rf_l2 k b (W : Int) count rs (q : Int) (left : Int) (n : Int) ((n : Int) * (W : Int)) u (fun x h => by have := hur x h; have := pow32 hW; omega) (by omega) (by omega) hrs (8 * n) 0 l (by omega) (by omega)
    rw [List.drop_zero, show ((0 : Nat) : Int) = 0 from rfl] at h2
    have step : marquetryref11_Part.j4 (k + 2 * (8 * n) + 1 + 1) b (W : Int) count l rs h (q : Int) (left : Int) (n : Int) (wrap64 (wrap64 (n : Int) * (W : Int))) = marquetryref11_Part.l2 (k + 2 * (8 * n) + 1) b (W : Int) count l rs (q : Int) (left : Int) (n : Int) ((n : Int) * (W : Int)) u 0 := by
      rw [rf_size hn8 hW, marquetryref11_Part.j4, rf_rest (by omega) (by omega) hl, rf_odd hh, if_neg (by omega), if_neg (by omega), if_pos (by omega), rf_sum hn8 hW hq6, if_pos hn5, if_pos hn6, rf_eight hn8, hU, Option.bind_some]
    rw [step, if_pos d, hu]
    by_cases e : (putS (left : Int) u 0 l).1 = 0
    · obtain ⟨rs', p1, p2⟩ := h2.1 e
      rw [if_pos e, p2, rf_sum hn8 hW hq6]
      exact ⟨fun _ => ⟨rs', p1, rfl⟩, fun h => absurd rfl h⟩
    · rw [if_neg e, h2.2 e]
      exact ⟨fun h => absurd h (by simp), fun _ => rfl⟩
  · have step : marquetryref11_Part.j4 (k + 2 * (8 * n) + 1 + 1) b (W : Int) count l rs h (q : Int) (left : Int) (n : Int) (wrap64 (wrap64 (n : Int) * (W : Int))) = some ([], [], 0, 6) := by
      rw [rf_size hn8 hW, marquetryref11_Part.j4, rf_rest (by omega) (by omega) hl, if_pos (by omega)]
    rw [step, if_neg d]
    exact ⟨fun h => absurd h (by simp), fun _ => rfl⟩
theorem rf_head {b : List Int} (hb : ∀ x ∈ b, 0 ≤ x ∧ x ≤ 255) (hl : b.length ≤ 100000) {k : Nat} (hk : 21 ≤ k) {W count a : Int} {l : List Int} {rs : List _} (hc : count ≤ 65536) (c : (l.length : Int) < count) (ha : 0 ≤ a) (ha1 : a ≤ b.length) (e : (rvS b a).2.2 = 0) :
    marquetryref11_Part.l0 (k + 1) b W count l rs a = marquetryref11_Part.j3 k b W count l rs (rvS b a).1 (rvS b a).2.1 (count - l.length) ((rvS b a).1 / 2)
      (decide ((rvS b a).1 / 2 = 0 ∨ ((rvS b a).1 % 2 = 0 ∧ count - l.length < (rvS b a).1 / 2) ∨ ((rvS b a).1 % 2 = 1 ∧ (count - l.length + 7) / 8 < (rvS b a).1 / 2))) := by
  obtain ⟨q1, q2, q3, q4⟩ := rv_ok hb (by omega) ha ha1 e
  rw [marquetryref11_Part.l0, if_pos c, rv_ref hb (by omega) ha ha1 hk, Option.bind_some, if_pos e, rf_half q1 q2, rf_odd q1, rf_left c hc, rf_eighth (by omega) (by omega)]
  obtain ⟨h, hh⟩ : ∃ h, h = (rvS b a).1 := ⟨_, rfl⟩
  obtain ⟨left, hlf⟩ : ∃ x, x = count - (l.length : Int) := ⟨_, rfl⟩
  rw [← hh, ← hlf]
  by_cases c0 : h / 2 = 0
  · rw [if_pos c0, decide_eq_true (.inl c0)]
  rw [if_neg c0]
  by_cases c1 : h % 2 = 0
  · rw [if_pos c1]
    by_cases c2 : left < h / 2
    · rw [if_pos c2, decide_eq_true (.inr (.inl ⟨c1, c2⟩))]
    · rw [if_neg c2, if_neg (by omega), decide_eq_false (by omega)]
  · have c3 : h % 2 = 1 := by omega
    rw [if_neg c1, if_pos c3]
    congr 1
    by_cases c4 : (left + 7) / 8 < h / 2
    · rw [show decide (h / 2 > (left + 7) / 8) = true from decide_eq_true c4, decide_eq_true (.inr (.inr ⟨c3, c4⟩))]
    · rw [show decide (h / 2 > (left + 7) / 8) = false from decide_eq_false c4, decide_eq_false (by omega)]
theorem rep_grow {b : List Int} {W n left q : Int} {l : List Int} (h : (repS b W n left l q).1 = 0) : (repS b W n left l q).2.1.length = l.length + n.toNat := by
  unfold repS at h ⊢
  split at h
  · rename_i g0
    rw [if_pos g0]
    split at h
    · rename_i g1
      rw [if_pos g1]
      split at h
      · rename_i g2
        rw [if_pos g2]; simp
      · exact absurd h (by simp)
    · exact absurd h (by simp)
  · exact absurd h (by simp)
theorem rf_even {b : List Int} (hb : ∀ x ∈ b, 0 ≤ x ∧ x ≤ 255) (hl : b.length ≤ 100000) {W : Nat} (hW : W ≤ 32) {count a h q left : Int} {l : List Int} {rs : List _} {k : Nat} (h2 : 2 ≤ h) (hq0 : 0 ≤ q) (hq1 : q ≤ b.length) (hlf : left = count - (l.length : Int)) (hlc : (l.length : Int) < count) (hc : count ≤ 65536) (hrs : rs.length ≤ l.length) (c1 : h % 2 = 0) (hk : 100000200 + 40 * left ≤ (k : Int))
    (hd : marquetryref11_Part.l0 (k - 1 + 1) b (W : Int) count l rs a = marquetryref11_Part.j3 (k - 1) b (W : Int) count l rs h q left (h / 2) (decide (h / 2 = 0 ∨ (h % 2 = 0 ∧ left < h / 2) ∨ (h % 2 = 1 ∧ (left + 7) / 8 < h / 2)))) :
    ((repS b (W : Int) (h / 2) left l q).1 = 0 → ∃ rs1 k1, rs1.length = rs.length + 1 ∧ 100000200 + 40 * (count - (repS b (W : Int) (h / 2) left l q).2.1.length) ≤ ((k1 : Nat) : Int) ∧ marquetryref11_Part.l0 k b (W : Int) count l rs a = marquetryref11_Part.l0 k1 b (W : Int) count (repS b (W : Int) (h / 2) left l q).2.1 rs1 (repS b (W : Int) (h / 2) left l q).2.2) ∧
    ((repS b (W : Int) (h / 2) left l q).1 ≠ 0 → marquetryref11_Part.l0 k b (W : Int) count l rs a = some ([], [], 0, (repS b (W : Int) (h / 2) left l q).1)) := by
  rw [show k - 1 + 1 = k by omega] at hd
  by_cases c2 : h / 2 ≤ left
  · obtain ⟨K, hK⟩ : ∃ K, k - 1 = (K + (h / 2).toNat + 1 + 1) + 1 := ⟨k - 4 - (h / 2).toNat, by omega⟩
    have hK2 : 100000200 + 40 * left ≤ (K : Int) + h / 2 + 4 := by omega
    have hj := rf_j4 (k := K) (count := count) (h := h) (q := q) (n := h / 2) (left := left) (l := l) (rs := rs) hb hl hW (by omega) hq0 hq1 (by omega) c1 (by omega) (by omega) (by omega) (by omega) c2
    have step : marquetryref11_Part.l0 k b (W : Int) count l rs a = marquetryref11_Part.j4 (K + (h / 2).toNat + 1 + 1) b (W : Int) count l rs h q left (h / 2) (wrap64 (Int.tdiv (wrap64 ((W : Int) + 7)) 8)) := by
      rw [hd, decide_eq_false (by omega), hK, marquetryref11_Part.j3, if_neg (by decide), rf_odd (by omega), if_neg (by omega)]
    rw [step]
    refine ⟨fun g => ?_, hj.2⟩
    have hgrow := rep_grow g
    obtain ⟨rs1, r1, r2⟩ := hj.1 g
    clear hj step hd
    refine ⟨rs1, K, r1, ?_, r2⟩
    rw [hgrow]
    clear r2 g hgrow
    omega
  · have step : marquetryref11_Part.l0 k b (W : Int) count l rs a = some ([], [], 0, 8) := by
      rw [hd, decide_eq_true (by omega), show k - 1 = (k - 2) + 1 by omega, marquetryref11_Part.j3, if_pos rfl]
    rw [step]
    unfold repS
    rw [if_neg c2]
    exact ⟨fun g => absurd g (by simp), fun _ => rfl⟩
theorem pak_grow {b : List Int} {W n left q : Nat} {l : List Int} (hW : W ≤ 32) (hleft : left ≤ 65536) (h : (pakS b (W : Int) n left l q).1 = 0) : ((pakS b (W : Int) n left l q).2.1.length : Int) = l.length + min (8 * n : Int) left := by
  unfold pakS at h ⊢
  by_cases c1 : (n : Int) ≤ ((left : Int) + 7) / 8
  · rw [if_pos c1] at h ⊢
    by_cases c2 : (n : Int) * (W : Int) ≤ (b.length : Int) - (q : Int)
    · rw [if_pos c2] at h ⊢
      have hm : ((n : Int) * (W : Int)) = ((n * W : Nat) : Int) := (Int.natCast_mul _ _).symm
      obtain ⟨u, hu, hul, hur⟩ := pak_nums (b := b) (W := W) (n := n) (a := q) hW (by omega) (by rw [hm] at c2; omega)
      rw [hu] at h ⊢
      by_cases c3 : (putS (left : Int) u 0 l).1 = 0
      · have hpl := put_len _ _ _ _ c3
        rw [if_pos c3]
        simp only
        omega
      · rw [if_neg c3] at h; exact absurd h (by simp)
    · rw [if_neg c2] at h; exact absurd h (by simp)
  · rw [if_neg c1] at h; exact absurd h (by simp)
theorem rf_pack {b : List Int} (hb : ∀ x ∈ b, 0 ≤ x ∧ x ≤ 255) (hl : b.length ≤ 100000) {W : Nat} (hW : W ≤ 32) {count a h : Int} {q left n : Nat} {l : List Int} {rs : List _} {k : Nat} (h2 : 2 ≤ h) (hn : h / 2 = (n : Int)) (hq1 : q ≤ b.length) (hlf : (left : Int) = count - (l.length : Int)) (hlc : (l.length : Int) < count) (hc : count ≤ 65536) (hrs : rs.length ≤ l.length) (c1 : h % 2 = 1) (hk : 100000200 + 40 * (left : Int) ≤ (k : Int))
    (hd : marquetryref11_Part.l0 (k - 1 + 1) b (W : Int) count l rs a = marquetryref11_Part.j3 (k - 1) b (W : Int) count l rs h (q : Int) (left : Int) (n : Int) (decide ((n : Int) = 0 ∨ (h % 2 = 0 ∧ (left : Int) < (n : Int)) ∨ (h % 2 = 1 ∧ ((left : Int) + 7) / 8 < (n : Int))))) :
    ((pakS b (W : Int) n left l q).1 = 0 → ∃ rs1 k1, rs1.length = rs.length + 1 ∧ 100000200 + 40 * (count - (pakS b (W : Int) n left l q).2.1.length) ≤ ((k1 : Nat) : Int) ∧ marquetryref11_Part.l0 k b (W : Int) count l rs a = marquetryref11_Part.l0 k1 b (W : Int) count (pakS b (W : Int) n left l q).2.1 rs1 (pakS b (W : Int) n left l q).2.2) ∧
    ((pakS b (W : Int) n left l q).1 ≠ 0 → marquetryref11_Part.l0 k b (W : Int) count l rs a = some ([], [], 0, (pakS b (W : Int) n left l q).1)) := by
  rw [show k - 1 + 1 = k by omega] at hd
  by_cases c2 : (n : Int) ≤ ((left : Int) + 7) / 8
  · obtain ⟨K, hK⟩ : ∃ K, k - 1 = (K + 2 * (8 * n) + 1 + 1) + 1 := ⟨k - 4 - 2 * (8 * n), by omega⟩
    have hK2 : 100000200 + 40 * (left : Int) ≤ (K : Int) + 16 * n + 4 := by omega
    have hj := rf_j4p (k := K) (count := count) (h := h) (q := q) (n := n) (left := left) (l := l) (rs := rs) hb hl hW (by omega) hq1 (by omega) c1 (by omega) (by omega) (by omega) c2
    have step : marquetryref11_Part.l0 k b (W : Int) count l rs a = marquetryref11_Part.j4 (K + 2 * (8 * n) + 1 + 1) b (W : Int) count l rs h (q : Int) (left : Int) (n : Int) (wrap64 (wrap64 (n : Int) * (W : Int))) := by
      rw [hd, decide_eq_false (by omega), hK, marquetryref11_Part.j3, if_neg (by decide), rf_odd (by omega), if_pos c1]
    rw [step]
    refine ⟨fun g => ?_, hj.2⟩
    have hgrow := pak_grow hW (by omega) g
    obtain ⟨rs1, r1, r2⟩ := hj.1 g
    clear hj step hd
    refine ⟨rs1, K, r1, ?_, r2⟩
    rw [hgrow]
    clear r2 g hgrow
    omega
  · have step : marquetryref11_Part.l0 k b (W : Int) count l rs a = some ([], [], 0, 8) := by
      rw [hd, decide_eq_true (by omega), show k - 1 = (k - 2) + 1 by omega, marquetryref11_Part.j3, if_pos rfl]
    rw [step]
    unfold pakS
    rw [if_neg c2]
    exact ⟨fun g => absurd g (by simp), fun _ => rfl⟩
theorem rf_one {b : List Int} (hb : ∀ x ∈ b, 0 ≤ x ∧ x ≤ 255) (hl : b.length ≤ 100000) {W : Nat} (hW : W ≤ 32) {count a : Int} {l : List Int} {rs : List _} {k : Nat} (hc : count ≤ 65536) (c : (l.length : Int) < count) (ha : 0 ≤ a) (ha1 : a ≤ b.length) (hrs : rs.length ≤ l.length) (hk : 100000200 + 40 * (count - l.length) ≤ (k : Int)) (e : (rvS b a).2.2 = 0) (d1 : 2 ≤ (rvS b a).1) :
    ((oneS b (W : Int) count l a).1 = 0 → ∃ rs1 k1, rs1.length = rs.length + 1 ∧ 100000200 + 40 * (count - (oneS b (W : Int) count l a).2.1.length) ≤ ((k1 : Nat) : Int) ∧ marquetryref11_Part.l0 k b (W : Int) count l rs a = marquetryref11_Part.l0 k1 b (W : Int) count (oneS b (W : Int) count l a).2.1 rs1 (oneS b (W : Int) count l a).2.2) ∧
    ((oneS b (W : Int) count l a).1 ≠ 0 → marquetryref11_Part.l0 k b (W : Int) count l rs a = some ([], [], 0, (oneS b (W : Int) count l a).1)) := by
  obtain ⟨q1, q2, q3, q4⟩ := rv_ok hb (by omega) ha ha1 e
  have hd := rf_head hb hl (k := k - 1) (by omega) (W := (W : Int)) (rs := rs) hc c ha ha1 e
  unfold oneS
  by_cases c1 : (rvS b a).1 % 2 = 0
  · rw [if_pos c1]
    exact rf_even hb hl hW d1 (by omega) q4 rfl c hc hrs c1 hk hd
  · rw [if_neg c1]
    obtain ⟨n, hn⟩ := Int.eq_ofNat_of_zero_le (show 0 ≤ (rvS b a).1 / 2 by omega)
    obtain ⟨q, hq⟩ := Int.eq_ofNat_of_zero_le (show 0 ≤ (rvS b a).2.1 by omega)
    obtain ⟨left, hlf⟩ := Int.eq_ofNat_of_zero_le (show 0 ≤ count - (l.length : Int) by omega)
    rw [hn, hq, hlf] at hd ⊢
    rw [hlf] at hk
    exact rf_pack hb hl hW d1 hn (by omega) hlf.symm c hc hrs (by omega) hk hd
/-- The reference, run by run. -/
theorem rf_l0 {b : List Int} (hb : ∀ x ∈ b, 0 ≤ x ∧ x ≤ 255) (hl : b.length ≤ 100000) {W : Nat} (hW : W ≤ 32) {count : Int} (hc0 : 0 ≤ count) (hc : count ≤ 65536) : ∀ (f : Nat) (l : List Int) (a : Int) (rs : List _) (k : Nat), count ≤ l.length + f → (l.length : Int) ≤ count → 0 ≤ a → a ≤ b.length → rs.length ≤ l.length → 100000200 + 40 * (count - l.length) ≤ (k : Int) →
    ∃ rs', marquetryref11_Part.l0 k b (W : Int) count l rs a = some ((partS b (W : Int) count f l a).2.1, rs', (partS b (W : Int) count f l a).2.2, (partS b (W : Int) count f l a).1)
  | 0, l, a, rs, k, hf, hlc, ha, ha1, hrs, hk => by
    obtain ⟨k, rfl⟩ : ∃ j, k = j + 1 := ⟨k - 1, by omega⟩
    exact ⟨rs, by rw [marquetryref11_Part.l0, if_neg (by omega)]; rfl⟩
  | f + 1, l, a, rs, k, hf, hlc, ha, ha1, hrs, hk => by
    rw [partS]
    by_cases c : (l.length : Int) < count
    · rw [if_pos c]
      by_cases e : (rvS b a).2.2 = 0
      · obtain ⟨q1, q2, q3, q4⟩ := rv_ok hb (by omega) ha ha1 e
        rw [if_pos e]
        by_cases d : 2 ≤ (rvS b a).1 ∧ (rvS b a).1 ≤ 4194304
        · rw [if_pos d]
          have h1 := rf_one hb hl hW hc c ha ha1 hrs hk e d.1
          by_cases g : (oneS b (W : Int) count l a).1 = 0
          · obtain ⟨p1, p2, p3, p4⟩ := one_ok hb (by omega) hW hc c ha ha1 e d.1 d.2 g
            obtain ⟨rs1, k1, r1, r2, r3⟩ := h1.1 g
            rw [if_pos g, r3]
            clear h1 r3
            exact rf_l0 hb hl hW hc0 hc f _ _ rs1 k1 (by omega) p2 p3 p4 (by omega) r2
          · rw [if_neg g]
            exact ⟨[], h1.2 g⟩
        · rw [if_neg d]
          obtain ⟨k, rfl⟩ : ∃ j, k = j + 1 + 1 := ⟨k - 2, by omega⟩
          refine ⟨[], ?_⟩
          rw [rf_head hb hl (by omega) hc c ha ha1 e, decide_eq_true (by omega), marquetryref11_Part.j3, if_pos rfl]
      · obtain ⟨k, rfl⟩ : ∃ j, k = j + 1 := ⟨k - 1, by omega⟩
        rw [if_neg e]
        exact ⟨[], by rw [marquetryref11_Part.l0, if_pos c, rv_ref hb (by omega) ha ha1 (by omega), Option.bind_some, if_neg e]⟩
    · obtain ⟨k, rfl⟩ : ∃ j, k = j + 1 := ⟨k - 1, by omega⟩
      rw [if_neg c]
      exact ⟨rs, by rw [marquetryref11_Part.l0, if_neg c]⟩
theorem ref_part {b : List Int} (hb : ∀ x ∈ b, 0 ≤ x ∧ x ≤ 255) (hl : b.length ≤ 100000) {W count : Int} {k : Nat} (hk : 200000000 ≤ k) : ∃ rs', marquetryref11_Part.f k b W count = some ((PartR b W count).2.1, rs', (PartR b W count).2.2, (PartR b W count).1) := by
  obtain ⟨k, rfl⟩ : ∃ j, k = j + 1 + 1 := ⟨k - 2, by omega⟩
  unfold marquetryref11_Part.f PartR
  by_cases c1 : W < 0
  · exact ⟨[], by rw [if_pos c1, if_pos c1, marquetryref11_Part.j0, if_pos rfl]⟩
  rw [if_neg c1, if_neg c1]
  by_cases c2 : 32 < W
  · exact ⟨[], by rw [if_pos c2, if_pos c2, marquetryref11_Part.j0, if_pos rfl]⟩
  rw [if_neg c2, if_neg c2]
  by_cases c3 : count < 0
  · exact ⟨[], by rw [decide_eq_true c3, if_pos c3, marquetryref11_Part.j0, if_pos rfl]⟩
  rw [decide_eq_false c3, if_neg c3, marquetryref11_Part.j0, if_neg (by decide), if_neg (by omega), if_neg (by omega)]
  by_cases c5 : 65536 < count
  · exact ⟨[], by rw [show decide (count > 65536) = true from decide_eq_true c5, if_pos c5, marquetryref11_Part.j1, if_pos rfl]⟩
  rw [show decide (count > 65536) = false from decide_eq_false c5, if_neg c5, marquetryref11_Part.j1, if_neg (by decide)]
  obtain ⟨V, rfl⟩ := Int.eq_ofNat_of_zero_le (show 0 ≤ W by omega)
  exact rf_l0 hb hl (by omega) (by omega) (by omega) count.toNat [] 0 [] k (by simp; omega) (by simp; omega) (by omega) (by omega) (by simp) (by simp; omega)
theorem ref_read {b : List Int} (hb : ∀ x ∈ b, 0 ≤ x ∧ x ≤ 255) (hl : b.length ≤ 100000) {W count : Int} {k : Nat} (hk : 200000000 ≤ k) : ∃ rs', marquetryref11_Read.f k b W count = some ((ReadR b W count).1, rs', (ReadR b W count).2) := by
  obtain ⟨rs, hp⟩ := ref_part hb hl (W := W) (count := count) hk
  unfold marquetryref11_Read.f ReadR
  rw [hp, Option.bind_some]
  by_cases c : (PartR b W count).1 = 0
  · simp only [c, if_true]
    by_cases d : (PartR b W count).2.2 < (b.length : Int)
    · exact ⟨[], by rw [if_pos d, if_pos d, if_pos d]⟩
    · exact ⟨rs, by rw [if_neg d, if_neg d, if_neg d]⟩
  · exact ⟨[], by rw [if_neg c, if_neg c, if_neg c]⟩
end Go.Proofs.Ytpibhiacmceekaa.L11

namespace Go.Proofs.Ytpibhiacmceekaa.L11
set_option linter.unusedVariables false
set_option linter.unusedSimpArgs false
open Go.RowKit Go.Proofs.Ytpibhiacmceekaa.X Go.Proofs.YtpibhiacmceekaaW.PrintWords Go.Proofs.YtpibhiacmceekaaW.PrintLast Go.Proofs.YtpibhiacmceekaaW.PrintMore Go.Proofs.Ytpibhiacmceekaa.Bx Go.Proofs.Ytpibhiacmceekaa.Nx Go.Proofs.Ytpibhiacmceekaa.L1 Go.Proofs.Ytpibhiacmceekaa.Px

theorem any_drop {p : Int → Bool} {l : List Int} {i : Nat} (h : i < l.length) : (l.drop i).any p = (p (l.getD i 0) || (l.drop (i + 1)).any p) := by
  rw [drop_cons h, List.any_cons]
theorem ref_lev_l0 (m : Int) (l : List Int) (hl : l.length ≤ 1000000) : ∀ (d i k : Nat), i + d = l.length → d < k →
    marquetryref11_ReadLevels.l0 k m l (i : Int) = some (if (l.drop i).any (fun x => decide (m < x)) = true then ([], 4) else (l, 0))
  | 0, i, k, hi, hk => by
    obtain ⟨k, rfl⟩ : ∃ j, k = j + 1 := ⟨k - 1, by omega⟩
    rw [marquetryref11_ReadLevels.l0, if_neg (by omega), List.drop_eq_nil_of_le (by omega), if_neg (by simp)]
  | d + 1, i, k, hi, hk => by
    obtain ⟨k, rfl⟩ : ∃ j, k = j + 1 := ⟨k - 1, by omega⟩
    have hr : rd l (i : Int) = l.getD i 0 := rfl
    rw [marquetryref11_ReadLevels.l0, if_pos (by omega), if_pos (by omega), hr, any_drop (by omega)]
    by_cases c : l.getD i 0 > m
    · rw [if_pos c, show decide (m < l.getD i 0) = true from decide_eq_true c]; rfl
    · rw [if_neg c, show decide (m < l.getD i 0) = false from decide_eq_false c, Bool.false_or, w64s' (by omega), ref_lev_l0 m l hl d (i + 1) k (by omega) (by omega)]
theorem ref_lev_read {b : List Int} (hb : ∀ x ∈ b, 0 ≤ x ∧ x ≤ 255) (hl : b.length ≤ 100000) {m n : Int} {k : Nat} (hk : 200000010 ≤ k) : marquetryref11_ReadLevels.f k b m n = some (LevReadR b m n) := by
  obtain ⟨k, rfl⟩ : ∃ j, k = j + 1 + 1 := ⟨k - 2, by omega⟩
  unfold marquetryref11_ReadLevels.f LevReadR
  by_cases c1 : m < 0
  · rw [if_pos c1, if_pos c1, marquetryref11_ReadLevels.j0, if_pos rfl]
  rw [if_neg c1, if_neg c1]
  by_cases c2 : 255 < m
  · rw [if_pos c2, if_pos c2, marquetryref11_ReadLevels.j0, if_pos rfl]
  rw [if_neg c2, if_neg c2]
  by_cases c3 : n < 0
  · rw [decide_eq_true c3, if_pos c3, marquetryref11_ReadLevels.j0, if_pos rfl]
  rw [decide_eq_false c3, if_neg c3, marquetryref11_ReadLevels.j0, if_neg (by decide)]
  by_cases c4 : 65536 < n
  · rw [if_pos c4, if_pos c4, marquetryref11_ReadLevels.j1, if_pos rfl]
  rw [if_neg c4, if_neg c4, show decide ((b.length : Int) > 1048576) = false from decide_eq_false (by omega), if_neg (by omega), marquetryref11_ReadLevels.j1, if_neg (by decide)]
  by_cases c5 : m = 0
  · rw [if_pos c5, if_pos c5]
    by_cases c6 : 0 < (b.length : Int)
    · rw [if_pos c6, if_pos c6]
    · rw [if_neg c6, if_neg c6, if_pos (by omega), if_pos (by omega)]
  rw [if_neg c5, if_neg c5]
  have hu : IntKind.u64.wrap m = m := by rw [u64w]; omega
  obtain ⟨rs, hR⟩ := ref_read hb hl (W := ((wd m.toNat : Nat) : Int)) (count := n) (k := k) (by omega)
  rw [hu, ref_width (by omega) (by omega) (by omega), Option.bind_some, hR, Option.bind_some]
  have hlen := ReadR_len hb ((wd m.toNat : Nat) : Int) n
  clear hR
  by_cases c7 : (ReadR b ((wd m.toNat : Nat) : Int) n).2 = 0
  · have := ref_lev_l0 m (ReadR b ((wd m.toNat : Nat) : Int) n).1 (by omega) (ReadR b ((wd m.toNat : Nat) : Int) n).1.length 0 k (by omega) (by omega)
    rw [List.drop_zero, show ((0 : Nat) : Int) = 0 from rfl] at this
    rw [if_pos c7, if_pos c7, this]
  · rw [if_neg c7, if_neg c7]
theorem ref_unframe {b : List Int} (hb : ∀ x ∈ b, 0 ≤ x ∧ x ≤ 255) {m n : Int} {k : Nat} (hk : 200000100 ≤ k) (hl : b.length ≤ 100000) : marquetryref11_Unframe.f k b m n = some (UnframeR b m n) := by
  obtain ⟨k, rfl⟩ : ∃ j, k = j + 1 + 1 + 1 := ⟨k - 3, by omega⟩
  unfold marquetryref11_Unframe.f UnframeR
  by_cases c1 : m < 0
  · rw [if_pos c1, if_pos c1, marquetryref11_Unframe.j0, if_pos rfl]
  rw [if_neg c1, if_neg c1]
  by_cases c2 : 255 < m
  · rw [if_pos c2, if_pos c2, marquetryref11_Unframe.j0, if_pos rfl]
  rw [if_neg c2, if_neg c2]
  by_cases c3 : n < 0
  · rw [decide_eq_true c3, if_pos c3, marquetryref11_Unframe.j0, if_pos rfl]
  rw [decide_eq_false c3, if_neg c3, marquetryref11_Unframe.j0, if_neg (by decide)]
  by_cases c4 : 65536 < n
  · rw [if_pos c4, if_pos c4, marquetryref11_Unframe.j1, if_pos rfl]
  rw [if_neg c4, if_neg c4, show decide ((b.length : Int) > 1048576) = false from decide_eq_false (by omega), if_neg (by omega), marquetryref11_Unframe.j1, if_neg (by decide)]
  by_cases c6 : m = 0
  · rw [if_pos c6, if_pos c6, if_pos (by omega), if_pos (by omega)]
  rw [if_neg c6, if_neg c6, ref_readLittle (by omega) hb (by omega) (by omega), Option.bind_some]
  by_cases c7 : (b.length : Int) < 4
  · rw [if_neg (by rw [rl4]; omega), if_pos c7, marquetryref11_Unframe.j2, if_pos rfl]
  · have h0 := readLittle_nonneg hb 0 4
    obtain ⟨v, hv⟩ : ∃ v, v = (ReadLittleR b 0 4).1 := ⟨_, rfl⟩
    rw [← hv] at h0
    have hw : IntKind.u64.wrap (wrap64 ((b.length : Int) - 4)) = (b.length : Int) - 4 := by rw [w64 (by omega) (by omega), u64w]; omega
    rw [if_pos (rl4.2 (by omega)), if_neg c7, ← hv, hw]
    clear hw
    by_cases c8 : (b.length : Int) - 4 < v
    · rw [show decide (v > (b.length : Int) - 4) = true from decide_eq_true c8, if_pos c8, marquetryref11_Unframe.j2, if_pos rfl]
    · have hw1 : wrap64 v = v := w64 (by omega) (by omega)
      rw [show decide (v > (b.length : Int) - 4) = false from decide_eq_false c8, if_neg c8, marquetryref11_Unframe.j2, if_neg (by decide), hw1, w64 (a := 4 + v) (by omega) (by omega)]
      clear hw1
      rw [if_pos (by omega), if_pos (by omega), ref_lev_read (fun x h => hb x (mid_mem h)) (by rw [List.length_drop, List.length_take]; omega) (by omega), Option.bind_some]
      split <;> rfl
end Go.Proofs.Ytpibhiacmceekaa.L11

namespace Go.Proofs.Ytpibhiacmceekaa.L11
set_option linter.unusedVariables false
set_option linter.unusedSimpArgs false
open Go.RowKit Go.Proofs.Ytpibhiacmceekaa.X Go.Proofs.YtpibhiacmceekaaW.PrintWords Go.Proofs.YtpibhiacmceekaaW.PrintLast Go.Proofs.YtpibhiacmceekaaW.PrintMore Go.Proofs.Ytpibhiacmceekaa.Bx Go.Proofs.Ytpibhiacmceekaa.Nx

theorem si_drop {l : List Int} {i : Nat} (h : i < l.length) : l.drop i = l.getD i 0 :: l.drop (i + 1) := by
  rw [List.drop_eq_getElem_cons h, List.getD_eq_getElem?_getD, List.getElem?_eq_getElem h]; rfl
theorem si_w {n : Nat} (h : n + 1 ≤ 1000000000) : wrap64 ((n : Int) + 1) = ((n + 1 : Nat) : Int) := by unfold wrap64; omega
theorem sameInts_l : ∀ (d i k : Nat) (a b : List Int), a.length ≤ 100000000 → a.length = b.length → i + d = a.length → d < k → marquetryref11_SameInts.l0 k a b (i : Int) = some (decide (a.drop i = b.drop i))
  | 0, i, k, a, b, hl, hab, hi, hk => by
    obtain ⟨k, rfl⟩ : ∃ j, k = j + 1 := ⟨k - 1, by omega⟩
    rw [marquetryref11_SameInts.l0, if_neg (by omega), List.drop_eq_nil_of_le (by omega), List.drop_eq_nil_of_le (by omega)]; rfl
  | d + 1, i, k, a, b, hl, hab, hi, hk => by
    obtain ⟨k, rfl⟩ : ∃ j, k = j + 1 := ⟨k - 1, by omega⟩
    have ha : rd a (i : Int) = a.getD i 0 := rfl
    have hb : rd b (i : Int) = b.getD i 0 := rfl
    rw [marquetryref11_SameInts.l0, if_pos (by omega), if_pos (by omega), if_pos (by omega), ha, hb, si_w (by omega), si_drop (l := a) (by omega), si_drop (l := b) (by omega)]
    by_cases c : a.getD i 0 = b.getD i 0
    · rw [if_pos c, sameInts_l d (i + 1) k a b hl hab (by omega) (by omega), c]
      simp
    · rw [if_neg c, decide_eq_false (fun h => c (List.cons.inj h).1)]
theorem sameInts {k : Nat} {a b : List Int} (hl : a.length ≤ 100000000) (hk : a.length < k) : marquetryref11_SameInts.f k a b = some (decide (a = b)) := by
  unfold marquetryref11_SameInts.f
  by_cases c : a.length = b.length
  · have := sameInts_l a.length 0 k a b hl c (by omega) hk
    rw [List.drop_zero, List.drop_zero] at this
    rw [if_pos (by omega)]; exact this
  · rw [if_neg (by omega), decide_eq_false (fun h => c (by rw [h]))]
end Go.Proofs.Ytpibhiacmceekaa.L11

namespace Go.Proofs.Ytpibhiacmceekaa.Pure
open Go.RowKit Go.Proofs.Ytpibhiacmceekaa.X Go.Proofs.YtpibhiacmceekaaW.PrintWords Go.Proofs.YtpibhiacmceekaaW.PrintLast Go.Proofs.YtpibhiacmceekaaW.PrintMore Go.Proofs.Ytpibhiacmceekaa.Bx Go.Proofs.Ytpibhiacmceekaa.Nx Go.Proofs.Ytpibhiacmceekaa.L1 Go.Proofs.Ytpibhiacmceekaa.L11

theorem LevReadR_len {b : List Int} (hb : ∀ x ∈ b, 0 ≤ x ∧ x ≤ 255) (m n : Int) : (LevReadR b m n).1.length ≤ 65536 := by
  have h := ReadR_len hb ((wd m.toNat : Nat) : Int) n
  unfold LevReadR
  split
  · simp
  split
  · simp
  split
  · simp
  split
  · simp
  split
  · simp
  split
  · split
    · simp
    · simp; omega
  split
  · split
    · simp
    · exact h
  · simp
theorem LevelsRead : marquetrylaw20_LevelsRead.Pure := by
  intro b m n hb hm hn
  have hb' : ∀ x ∈ b, 0 ≤ x ∧ x ≤ 255 := fun x h => wf_u8 (hb.1 x h)
  refine ⟨200000020, ?_⟩
  unfold marquetrylaw20_LevelsRead.f
  by_cases c : (b.length : Int) > 2000
  · rw [if_pos c, marquetrylaw20_LevelsRead.j0, if_pos rfl]
  rw [if_neg c]
  by_cases d : n > 4000
  · rw [decide_eq_true d, marquetrylaw20_LevelsRead.j0, if_pos rfl]
  have hlen := LevReadR_len hb' m n
  rw [decide_eq_false d, marquetrylaw20_LevelsRead.j0, if_neg (by decide), lev_read hb' (by omega), Option.bind_some, ref_lev_read hb' (by omega) (by omega), Option.bind_some, sameInts (by omega) (by omega), Option.bind_some, if_pos (by simp)]
  simp
end Go.Proofs.Ytpibhiacmceekaa.Pure

namespace Go.Proofs.Ytpibhiacmceekaa.Rd
open Go.ChangeShapes Go.WideShapes Go.Deep Go.RowKit Go.Joins Go.Proofs.YtpibhiacmceekaaW.PrintWords

/-- Cells that read as a datum of type t are a value of kind d that fits. -/
structure Opens (P : Program) (t : TypeId) {α : Type} (d : Kd α) (Wf : α → Prop) : Prop where
  opens : ∀ {H : Type} {enc : TypeId × Value → H} {w : World} {base : Nat} {spare : Nat → Bool} {held : Bool} {n : Nat} {cs : List Value} {y : DataW H × List MemPlace},
    DataW.trod enc P w base spare held n t cs = some y → (∀ m ∈ y.1.weights P t, m ≤ reachBytes) → ∃ x, d.K w x cs ∧ Wf x

theorem reach_le {m : Nat} (h : m ≤ reachBytes) : m ≤ 140737488351232 := h

theorem opens_int {P : Program} {t : TypeId} {k : IntKind} (hu : P.underlying t = some (.int k)) : Opens P t (Kd.int k) (fun x => (Lit.int k x).wf = true) := by
  refine ⟨fun {H enc w base spare held n cs y} h _ => ?_⟩
  obtain ⟨x, rfl, _, hw⟩ := DataW.trod_int hu h
  exact ⟨x, rfl, hw⟩
theorem opens_bool {P : Program} {t : TypeId} (hu : P.underlying t = some .bool) : Opens P t Kd.bool (fun _ => True) := by
  refine ⟨fun {H enc w base spare held n cs y} h _ => ?_⟩
  obtain ⟨x, rfl, _⟩ := DataW.trod_bool hu h
  exact ⟨x, rfl, trivial⟩
theorem opens_string {P : Program} {t : TypeId} (hu : P.underlying t = some .string) : Opens P t Kd.string (fun x => x.size ≤ 140737488351232) := by
  refine ⟨fun {H enc w base spare held n cs y} h hw => ?_⟩
  obtain ⟨x, rfl, hx, _⟩ := DataW.trod_string hu h
  subst hx
  refine ⟨x, rfl, ?_⟩
  have := hw x.data.toList.length (by simp [DataW.weights])
  rw [Array.length_toList] at this
  exact this

/-- A list out of what is known at each place. -/
theorem list_of {α : Type} {p : Nat → α → Prop} : ∀ (n : Nat), (∀ i, i < n → ∃ x, p i x) → ∃ xs : List α, xs.length = n ∧ ∀ i x, xs[i]? = some x → p i x
  | 0, _ => ⟨[], rfl, fun i x h => by simp at h⟩
  | n + 1, h => by
    obtain ⟨xs, hl, hx⟩ := list_of n (fun i hi => h i (by omega))
    obtain ⟨x, hp⟩ := h n (by omega)
    refine ⟨xs ++ [x], by simp [hl], fun i y hy => ?_⟩
    rcases Nat.lt_or_ge i xs.length with hi | hi
    · rw [List.getElem?_append_left hi] at hy; exact hx i y hy
    · have hi' : i = xs.length := by
        have := (List.getElem?_eq_some_iff.1 hy).1
        simp at this; omega
      subst hi'
      have : x = y := by simpa using hy
      subst this
      rw [hl]; exact hp

theorem weights_all {H : Type} {P : Program} {e : TypeId} : ∀ (ds : List (DataW H)) (d : DataW H), d ∈ ds → ∀ m ∈ d.weights P e, m ∈ DataW.weightsAll P e ds
  | [], d, h, _, _ => by simp at h
  | d0 :: ds, d, h, m, hm => by
    simp only [DataW.weightsAll, List.mem_append]
    rcases List.mem_cons.1 h with rfl | h
    · exact .inl hm
    · exact .inr (weights_all ds d h m hm)

theorem opens_slice {P : Program} {t e : TypeId} {α : Type} {d : Kd α} {Wf : α → Prop} {B : Nat} (hu : P.underlying t = some (.slice e)) (hsz : P.cellsOf e = d.sz) (hB : P.bytesOf e = B) (ho : Opens P e d Wf) :
    Opens P t (Kd.slice e d) (fun xs => (∀ x ∈ xs, Wf x) ∧ xs.length ≤ maxLen ∧ xs.length * B ≤ 140737488351232) := by
  refine ⟨fun {H enc w base spare held n cs y} h hw => ?_⟩
  rcases open_slice hu h with ⟨rfl, _⟩ | ⟨a, len, cap, m, n', D, Pl, rfl, hb, hl, hm, hmm, rfl, hx⟩
  · exact ⟨[], ⟨none, 0, rfl, Nat.le_refl _, rfl, Nat.zero_le _, fun h => absurd h (by simp)⟩, by simp⟩
  · have hlm : len ≤ m := by rw [hmm]; split <;> omega
    have hsize : len * B ≤ 140737488351232 := by
      have := hw ((((List.range len).map D).length + ((List.range (m - len)).map fun j => D (len + j)).length) * P.bytesOf e) (by simp [DataW.weights, hu])
      rw [hB] at this
      refine Nat.le_trans (Nat.mul_le_mul_right _ ?_) (reach_le this)
      simp
    obtain ⟨xs, hxl, hxs⟩ := list_of (p := fun i x => ∃ cs', w.cells? base (a.add (i * P.cellsOf e)) (P.cellsOf e) = some cs' ∧ d.K w x cs' ∧ Wf x) len (fun i hi => by
      obtain ⟨cs', h1, h2⟩ := hx i (by omega)
      obtain ⟨x, hk, hwf⟩ := ho.opens h2 (fun q hq => hw q (by
        simp only [DataW.weights, hu, List.mem_cons, List.mem_append]
        exact .inr (.inl (weights_all _ (D i) (List.mem_map.2 ⟨i, List.mem_range.2 hi, rfl⟩) q hq))))
      exact ⟨x, cs', h1, hk, hwf⟩)
    subst hxl
    refine ⟨xs, ⟨some a, cap, rfl, hl, rfl, ?_, fun _ => ⟨a, rfl, fun j p hp => ?_⟩⟩, ⟨fun x hx' => ?_, Nat.le_trans hl hm, hsize⟩⟩
    · unfold maxLen at hm; omega
    · obtain ⟨cs', h1, hk, _⟩ := hxs j p hp
      obtain ⟨_, hcl, hcc⟩ := World.cells?_some h1
      refine ⟨cs', by rw [hcl, hsz], hk, fun i u hiu => ?_⟩
      have hi : i < P.cellsOf e := by rw [← hcl]; exact (List.getElem?_eq_some_iff.1 hiu).1
      rw [← hsz, ← Go.Deep.add_add, hcc i hi]
      exact hiu
    · obtain ⟨i, hi⟩ := List.getElem?_of_mem hx'
      exact (hxs i x hi).choose_spec.2.2

theorem weights_each {H : Type} {P : Program} {t : TypeId} {fs : Array Field} {ds : List (DataW H)} (hu : P.underlying t = some (.struct fs)) (hw : ∀ m ∈ (DataW.agg ds).weights P t, m ≤ reachBytes) {j : Nat} {f : Field} {d : DataW H} (hf : fs.toList[j]? = some f) (hd : ds[j]? = some d) :
    ∀ m ∈ d.weights P f.type, m ≤ reachBytes := by
  intro m hm
  refine hw m ?_
  simp only [DataW.weights, hu]
  exact DataW.weights_mem_each (by rw [List.getElem?_map, hf]; rfl) hd m hm

theorem cut_one (cs : List Value) (k : Nat) (v : Value) (h : cs[k]? = some v) : (cs.drop k).take 1 = [v] := by
  obtain ⟨hl, hv⟩ := List.getElem?_eq_some_iff.1 h
  rw [List.drop_eq_getElem_cons hl, hv]; rfl

theorem one_of {P : Program} {fs : Array Field} (hone : oneCellFields P fs = true) {j : Nat} {f : Field} (h : fs.toList[j]? = some f) : f.offset = j ∧ P.cellsOf f.type = 1 := hone_of hone j f (by simpa using h)

theorem opens_struct2 {P : Program} {t : TypeId} {f0 f1 : Field} {α β : Type} {d0 : Kd α} {d1 : Kd β} {W0 : α → Prop} {W1 : β → Prop} (hu : P.underlying t = some (.struct #[f0, f1])) (hone : oneCellFields P #[f0, f1] = true) (hC : P.cellsOf t = 2)
    (h0 : Opens P f0.type d0 W0) (h1 : Opens P f1.type d1 W1) : Opens P t (Kd.pair d0 d1) (fun x => W0 x.1 ∧ W1 x.2) := by
  refine ⟨fun {H enc w base spare held n cs y} h hw => ?_⟩
  obtain ⟨y0, y1, m, rfl, hl, e0, e1⟩ := trod_struct2 hu h
  obtain ⟨o0, k0⟩ := one_of hone (j := 0) (f := f0) rfl
  obtain ⟨o1, k1⟩ := one_of hone (j := 1) (f := f1) rfl
  rw [hC] at hl
  match cs, hl with
  | [c0, c1], _ =>
    rw [o0, k0] at e0; rw [o1, k1] at e1
    obtain ⟨x0, q0, z0⟩ := h0.opens e0 (weights_each hu hw (j := 0) rfl rfl)
    obtain ⟨x1, q1, z1⟩ := h1.opens e1 (weights_each hu hw (j := 1) rfl rfl)
    exact ⟨(x0, x1), ⟨[c0], [c1], rfl, q0, q1⟩, z0, z1⟩
theorem opens_struct3 {P : Program} {t : TypeId} {f0 f1 f2 : Field} {α β γ : Type} {d0 : Kd α} {d1 : Kd β} {d2 : Kd γ} {W0 : α → Prop} {W1 : β → Prop} {W2 : γ → Prop} (hu : P.underlying t = some (.struct #[f0, f1, f2])) (hone : oneCellFields P #[f0, f1, f2] = true) (hC : P.cellsOf t = 3)
    (h0 : Opens P f0.type d0 W0) (h1 : Opens P f1.type d1 W1) (h2 : Opens P f2.type d2 W2) : Opens P t (Kd.pair d0 (Kd.pair d1 d2)) (fun x => W0 x.1 ∧ W1 x.2.1 ∧ W2 x.2.2) := by
  refine ⟨fun {H enc w base spare held n cs y} h hw => ?_⟩
  obtain ⟨y0, y1, y2, m, rfl, hl, e0, e1, e2⟩ := trod_struct3 hu h
  obtain ⟨o0, k0⟩ := one_of hone (j := 0) (f := f0) rfl
  obtain ⟨o1, k1⟩ := one_of hone (j := 1) (f := f1) rfl
  obtain ⟨o2, k2⟩ := one_of hone (j := 2) (f := f2) rfl
  rw [hC] at hl
  match cs, hl with
  | [c0, c1, c2], _ =>
    rw [o0, k0] at e0; rw [o1, k1] at e1; rw [o2, k2] at e2
    obtain ⟨x0, q0, z0⟩ := h0.opens e0 (weights_each hu hw (j := 0) rfl rfl)
    obtain ⟨x1, q1, z1⟩ := h1.opens e1 (weights_each hu hw (j := 1) rfl rfl)
    obtain ⟨x2, q2, z2⟩ := h2.opens e2 (weights_each hu hw (j := 2) rfl rfl)
    exact ⟨(x0, x1, x2), ⟨[c0], [c1, c2], rfl, q0, [c1], [c2], rfl, q1, q2⟩, z0, z1, z2⟩
theorem opens_struct4 {P : Program} {t : TypeId} {f0 f1 f2 f3 : Field} {α β γ δ : Type} {d0 : Kd α} {d1 : Kd β} {d2 : Kd γ} {d3 : Kd δ} {W0 : α → Prop} {W1 : β → Prop} {W2 : γ → Prop} {W3 : δ → Prop} (hu : P.underlying t = some (.struct #[f0, f1, f2, f3])) (hone : oneCellFields P #[f0, f1, f2, f3] = true) (hC : P.cellsOf t = 4)
    (h0 : Opens P f0.type d0 W0) (h1 : Opens P f1.type d1 W1) (h2 : Opens P f2.type d2 W2) (h3 : Opens P f3.type d3 W3) : Opens P t (Kd.pair d0 (Kd.pair d1 (Kd.pair d2 d3))) (fun x => W0 x.1 ∧ W1 x.2.1 ∧ W2 x.2.2.1 ∧ W3 x.2.2.2) := by
  refine ⟨fun {H enc w base spare held n cs y} h hw => ?_⟩
  obtain ⟨y0, y1, y2, y3, m, rfl, hl, e0, e1, e2, e3⟩ := trod_struct4 hu h
  obtain ⟨o0, k0⟩ := one_of hone (j := 0) (f := f0) rfl
  obtain ⟨o1, k1⟩ := one_of hone (j := 1) (f := f1) rfl
  obtain ⟨o2, k2⟩ := one_of hone (j := 2) (f := f2) rfl
  obtain ⟨o3, k3⟩ := one_of hone (j := 3) (f := f3) rfl
  rw [hC] at hl
  match cs, hl with
  | [c0, c1, c2, c3], _ =>
    rw [o0, k0] at e0; rw [o1, k1] at e1; rw [o2, k2] at e2; rw [o3, k3] at e3
    obtain ⟨x0, q0, z0⟩ := h0.opens e0 (weights_each hu hw (j := 0) rfl rfl)
    obtain ⟨x1, q1, z1⟩ := h1.opens e1 (weights_each hu hw (j := 1) rfl rfl)
    obtain ⟨x2, q2, z2⟩ := h2.opens e2 (weights_each hu hw (j := 2) rfl rfl)
    obtain ⟨x3, q3, z3⟩ := h3.opens e3 (weights_each hu hw (j := 3) rfl rfl)
    exact ⟨(x0, x1, x2, x3), ⟨[c0], [c1, c2, c3], rfl, q0, [c1], [c2, c3], rfl, q1, [c2], [c3], rfl, q2, q3⟩, z0, z1, z2, z3⟩

theorem opens_iso {P : Program} {t : TypeId} {α β : Type} {d : Kd α} {f : β → α} (g : α → β) (hfg : ∀ a, f (g a) = a) {W : α → Prop} (h : Opens P t d W) : Opens P t (Kd.iso d f) (fun x => W (f x)) := by
  refine ⟨fun {H enc w base spare held n cs y} hh hw => ?_⟩
  obtain ⟨x, hx, hwf⟩ := h.opens hh hw
  refine ⟨g x, ?_, ?_⟩
  · show d.K w (f (g x)) cs
    rw [hfg]; exact hx
  · rw [hfg]; exact hwf
/-- An argument. -/
theorem opens_arg {P : Program} {t : TypeId} {α : Type} {d : Kd α} {Wf : α → Prop} (ho : Opens P t d Wf) {H : Type} {enc : TypeId × Value → H} {w : World} {base : Nat} {spare : Nat → Bool} {held : Bool} {v : Value} {dt : DataW H} {p : List MemPlace}
    (h : DataW.Trod enc P w base spare held t v dt p) {ts : List TypeId} {ds : List (DataW H)} {j : Nat} (hsz : (DataW.weightsEach P ts ds).all (· ≤ reachBytes) = true) (ht : ts[j]? = some t) (hd : ds[j]? = some dt) : ∃ x, d.K w x v.cells.toList ∧ Wf x := by
  obtain ⟨n, hn⟩ := h
  refine ho.opens hn (fun m hm => ?_)
  have := List.all_eq_true.1 hsz m (DataW.weights_mem_each ht hd m hm)
  simpa using this
end Go.Proofs.Ytpibhiacmceekaa.Rd
