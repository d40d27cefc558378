/- LevelsBack: levels that are written are read as they were, also with bytes behind them where they have their length: for every greatest level, levels, bytes. No condition. -/
import Derived.Test.YtpibhiacmceekaaGLevelsBack2
import Derived.Test.YtpibhiacmceekaaGLevelsBack4
namespace Go.Proofs.Ytpibhiacmceekaa.Pure
open Go.RowKit Go.Proofs.Ytpibhiacmceekaa.X Go.Proofs.YtpibhiacmceekaaW.PrintWords Go.Proofs.YtpibhiacmceekaaW.PrintLast Go.Proofs.YtpibhiacmceekaaW.PrintMore Go.Proofs.Ytpibhiacmceekaa.Bx Go.Proofs.Ytpibhiacmceekaa.Nx Go.Proofs.Ytpibhiacmceekaa.L1 Go.Proofs.Ytpibhiacmceekaa.L11

theorem LevelsBack : marquetrylaw20_LevelsBack.Pure := by
  intro m l b hm hl hb
  have hx : ∀ x ∈ l, -9223372036854775808 ≤ x ∧ x ≤ 9223372036854775807 := fun x h => wf_i64 (hl.1 x h)
  have hb' : ∀ x ∈ b, 0 ≤ x ∧ x ≤ 255 := fun x h => wf_u8 (hb.1 x h)
  refine ⟨200002, ?_⟩
  unfold marquetrylaw20_LevelsBack.f
  by_cases c1 : (l.length : Int) > 400
  · rw [if_pos c1, marquetrylaw20_LevelsBack.j0, if_pos rfl]
  rw [if_neg c1]
  by_cases c2 : (b.length : Int) > 400
  · rw [decide_eq_true c2, marquetrylaw20_LevelsBack.j0, if_pos rfl]
  rw [decide_eq_false c2, marquetrylaw20_LevelsBack.j0, if_neg (by decide), levels_write (by omega) (by omega) hx, Option.bind_some, framed (by omega) (by omega) hx, Option.bind_some]
  by_cases e : (LevelsR m l).2 = 0
  · obtain ⟨h0, h1, hok, hmax⟩ := LevelsR_ok e
    obtain ⟨M, rfl⟩ := Int.eq_ofNat_of_zero_le h0
    have hll : l.length ≤ 400 := by omega
    by_cases d : M = 0
    · subst d
      have hz : ∀ x ∈ l, x = 0 := fun x h => by have := hmax x h; omega
      have hrep : l = List.replicate l.length 0 := List.eq_replicate_iff.2 ⟨rfl, hz⟩
      have hL : LevelsR ((0 : Nat) : Int) l = ([], 0) := levels_zero hll hz
      have hF : FramedR ((0 : Nat) : Int) l = ([], 0) := by unfold FramedR; rw [hL]; simp
      rw [hL, hF]
      simp only [if_true]
      rw [show ((0 : Int) != 0) = false by decide, marquetrylaw20_LevelsBack.j1, if_neg (by decide), lev_read (fun x h => by cases h) (by omega), lev_zero (by omega), Option.bind_some, if_pos (by simp), Option.bind_some, if_pos (by simp; omega), List.nil_append, List.nil_append,
        unframe hb' (by omega) (by omega), unframe_zero (by omega) (by omega), Option.bind_some]
      simp only [if_true]
      rw [sameInts (by simp; omega) (by simp; omega), Option.bind_some, if_pos (by rw [← hrep]; simp), Option.bind_some, if_pos (by rw [← hrep]; simp)]
      simp
    · have hW : wd M ≤ 8 := (wd_le 8 M).2 (by omega)
      have hL : LevelsR (M : Int) l = (toldS (wd M) l.length l, 0) := levels_pos (by omega) (by omega) hll hok hmax
      have hu8 := told_u8 (W := wd M) (by omega) l.length l (by omega) hok
      have hshort := told_short (W := wd M) (by omega) l.length l (by omega) hok
      obtain ⟨T, hT⟩ : ∃ T, T = toldS (wd M) l.length l := ⟨_, rfl⟩
      have hF : FramedR (M : Int) l = (leb 4 (T.length : Int) ++ T, 0) := by
        unfold FramedR
        rw [hL, ← hT]
        simp only [if_true]
        rw [if_neg (by omega), little4 (by omega) (by rw [hT]; omega)]
      rw [hF, hL, ← hT]
      simp only [if_true]
      rw [← hT] at hu8 hshort
      have hr : ReadR T ((wd M : Nat) : Int) (l.length : Int) = (l, 0) := by rw [hT]; exact read_back (by omega) (by omega) hok
      have hlr : LevReadR T (M : Int) (l.length : Int) = (l, 0) := lev_back (by omega) (by omega) hll (by omega) hr hmax
      have hall : ∀ x ∈ leb 4 (T.length : Int) ++ T ++ b, 0 ≤ x ∧ x ≤ 255 := fun x h => by
        rcases List.mem_append.1 h with h | h
        · rcases List.mem_append.1 h with h | h
          · exact leb_range _ _ x h
          · exact hu8 x h
        · exact hb' x h
      have hlen : (leb 4 (T.length : Int) ++ T ++ b).length = 4 + T.length + b.length := by simp only [List.length_append, leb_length]
      rw [show ((0 : Int) != 0) = false by decide, marquetrylaw20_LevelsBack.j1, if_neg (by decide), lev_read hu8 (by omega), hlr, Option.bind_some, if_pos (by simp only [List.length_append, leb_length, List.length_nil]; omega), Option.bind_some, List.nil_append, if_pos (by simp only [List.length_append, leb_length]; omega),
        unframe hall (by omega) (by omega), unframe_back (by omega) (by omega) hll (by omega) (by omega) hlr, Option.bind_some]
      simp only [if_true]
      rw [sameInts (by omega) (by omega), Option.bind_some, if_pos (by simp), Option.bind_some, if_pos (by simp)]
      simp only [List.length_append, leb_length]
      simp
  · have hL := LevelsR_bad e
    have hF : FramedR m l = ([], (LevelsR m l).2) := by unfold FramedR; rw [if_neg e]
    rw [hF, hL, if_neg e, marquetrylaw20_LevelsBack.j1, if_pos rfl, if_pos rfl]
    show some (wrap64 (((0 : Nat) : Int) + ((0 : Nat) : Int)) == 0) = some true
    rw [w64 (by decide) (by decide)]
    rfl
end Go.Proofs.Ytpibhiacmceekaa.Pure
