/- HybridBack: what is written is read as it was, also with bytes behind it; what is read, written, is read as the same: for every width, numbers, bytes, count. No condition. -/
import Derived.Test.YtpibhiacmceekaaGHybridBack2
import Derived.Test.YtpibhiacmceekaaGHybridBack4
namespace Go.Proofs.Ytpibhiacmceekaa.Pure
open Go.RowKit Go.Proofs.Ytpibhiacmceekaa Go.Proofs.Ytpibhiacmceekaa.X Go.Proofs.YtpibhiacmceekaaW.PrintWords Go.Proofs.YtpibhiacmceekaaW.PrintLast Go.Proofs.YtpibhiacmceekaaW.PrintMore Go.Proofs.Ytpibhiacmceekaa.Bx Go.Proofs.Ytpibhiacmceekaa.Nx Go.Proofs.Ytpibhiacmceekaa.L1 Go.Proofs.Ytpibhiacmceekaa.L11

theorem hb_j1 {k : Nat} {w c : Int} {b : List Int} (hk : 100000 ≤ k) (hb : ∀ x ∈ b, 0 ≤ x ∧ x ≤ 255) (hc : c ≤ 4000) : marquetrylaw11_HybridBack.j1 k w b c = some true := by
  obtain ⟨k, rfl⟩ : ∃ j, k = j + 1 := ⟨k - 1, by omega⟩
  rw [marquetrylaw11_HybridBack.j1, read hb (by omega), Option.bind_some]
  by_cases e : (ReadR b w c).2 = 0
  · obtain ⟨h0, h1, h2, h3, hok, hlen⟩ := ReadR_ok hb e
    obtain ⟨W, rfl⟩ := Int.eq_ofNat_of_zero_le h0
    obtain ⟨x, hx⟩ : ∃ x, x = (ReadR b (W : Int) c).1 := ⟨_, rfl⟩
    rw [show ((W : Int)).toNat = W from rfl] at hok
    rw [← hx] at hok hlen ⊢
    have hW : W ≤ 32 := by omega
    have hxl : x.length ≤ 10000 := by omega
    have hu8 := told_u8 hW x.length x (by omega) hok
    rw [if_pos e, write (by omega) (by omega) (okN_i64 hW hok), write_ok hW hxl hok, Option.bind_some]
    simp only [if_true]
    rw [← hlen, read hu8 (by omega), read_back hW hxl hok, Option.bind_some]
    simp only [if_true]
    rw [sameInts (by omega) (by omega), Option.bind_some, if_pos (by simp)]
    simp
  · rw [if_neg e, ReadR_bad e]; simp
theorem HybridBack : marquetrylaw11_HybridBack.Pure := by
  intro w l b c hw hl hb hc
  have hx : ∀ x ∈ l, -9223372036854775808 ≤ x ∧ x ≤ 9223372036854775807 := fun x h => wf_i64 (hl.1 x h)
  have hb' : ∀ x ∈ b, 0 ≤ x ∧ x ≤ 255 := fun x h => wf_u8 (hb.1 x h)
  refine ⟨200002, ?_⟩
  unfold marquetrylaw11_HybridBack.f
  by_cases c1 : (l.length : Int) > 400
  · rw [if_pos c1, marquetrylaw11_HybridBack.j0, if_pos rfl]
  rw [if_neg c1]
  by_cases c2 : (b.length : Int) > 1000
  · rw [if_pos c2, marquetrylaw11_HybridBack.j0, if_pos rfl]
  rw [if_neg c2]
  by_cases c3 : c > 4000
  · rw [decide_eq_true c3, marquetrylaw11_HybridBack.j0, if_pos rfl]
  rw [decide_eq_false c3, marquetrylaw11_HybridBack.j0, if_neg (by decide), write (by omega) (by omega) hx, Option.bind_some]
  by_cases e : (WriteR w l).2 = 0
  · obtain ⟨h0, h1, hok⟩ := WriteR_ok e
    obtain ⟨W, rfl⟩ := Int.eq_ofNat_of_zero_le h0
    rw [show ((W : Int)).toNat = W from rfl] at hok
    have hW : W ≤ 32 := by omega
    have hll : l.length ≤ 10000 := by omega
    have hu8 := told_u8 hW l.length l (by omega) hok
    have hshort := told_short hW l.length l (by omega) hok
    rw [write_ok hW hll hok]
    simp only [if_true]
    have hmore : ∀ x ∈ toldS W l.length l ++ b, 0 ≤ x ∧ x ≤ 255 := fun x h => by
      rcases List.mem_append.1 h with h | h
      · exact hu8 x h
      · exact hb' x h
    rw [read hu8 (by omega), read_back hW hll hok, Option.bind_some, if_pos (by simp; omega), Option.bind_some, List.nil_append, if_pos (by omega), L11.part hmore (by omega), part_back hW hll hok (by omega), Option.bind_some]
    simp only [if_true]
    rw [sameInts (by omega) (by omega), Option.bind_some, if_pos (by simp), Option.bind_some, if_pos (by simp)]
    first | exact hb_j1 (by omega) hb' (by omega) | (rw [if_pos rfl]; exact hb_j1 (by omega) hb' (by omega))
  · rw [if_neg e]
    exact hb_j1 (by omega) hb' (by omega)
end Go.Proofs.Ytpibhiacmceekaa.Pure
