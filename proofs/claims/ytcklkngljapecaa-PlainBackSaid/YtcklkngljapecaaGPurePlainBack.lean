/- PlainBack: for any type, all values and all bytes, what the program writes it reads as it was, and what it reads it writes as it was. No condition. -/
import Derived.Test.YtcklkngljapecaaGPlainBack2
import Derived.Test.YtcklkngljapecaaGPlainBack4
namespace Go.Proofs.Ytcklkngljapecaa.Pure
open Go.RowKit Go.Proofs.Ytcklkngljapecaa.X Go.Proofs.YtcklkngljapecaaW.PrintWords Go.Proofs.YtcklkngljapecaaW.PrintLast Go.Proofs.YtcklkngljapecaaW.PrintMore Go.Proofs.Ytcklkngljapecaa.Bx Go.Proofs.Ytcklkngljapecaa.Nx Go.Proofs.Ytcklkngljapecaa.L1 Go.Proofs.Ytcklkngljapecaa.L10

theorem back_j1 {K : Nat} {k s n : Int} {b : List Int} (hK : 100001 ≤ K) (hk : (Lit.int .i64 k).wf = true) (hb : ∀ x ∈ b, 0 ≤ x ∧ x ≤ 255) (hlen : b.length ≤ 2000) : marquetrylaw10_PlainBack.j1 K k s b n = some true := by
  obtain ⟨K, rfl⟩ : ∃ j, K = j + 1 := ⟨K - 1, by omega⟩
  rw [marquetrylaw10_PlainBack.j1, read (by omega) hb hk, Option.bind_some]
  by_cases c : (ReadS b k s n).2 = 0
  · obtain ⟨h1, h2, h3⟩ := read_write hb hlen c
    rw [if_pos c, write_m (by omega) hk (fun x hx => by rw [h3 x hx]; exact hk) h2, Option.bind_some, h1, if_pos rfl]
    simp
  · rw [if_neg c, read_bad c]; rfl
theorem PlainBack : marquetrylaw10_PlainBack.Pure := by
  intro k s l b n hk _ hl hbw _
  have hb : ∀ x ∈ b, 0 ≤ x ∧ x ≤ 255 := fun x hx => wf_u8 (hbw.1 x hx)
  refine ⟨1100002, ?_⟩
  unfold marquetrylaw10_PlainBack.f
  obtain ⟨bb, hB, hL⟩ := heavy (K := 1100002) (k := k) (s := s) (l := l) (by omega) (fun x hx => (hl.1 x hx).2.2)
  rw [hB, Option.bind_some]
  cases bb with
  | true => rw [if_pos rfl, marquetrylaw10_PlainBack.j0, if_pos rfl]
  | false =>
    have hM := mild_of (k := k) (hL rfl)
    have hlen := (hL rfl).1
    rw [if_neg (by simp), marquetrylaw10_PlainBack.j0]
    by_cases c : (b.length : Int) > 2000
    · rw [decide_eq_true c, if_pos rfl]
    rw [decide_eq_false c, if_neg (by simp), write_m (by omega) hk (fun x hx => (hl.1 x hx).1) hM, Option.bind_some]
    by_cases d : (WriteS k s l).2 = 0
    · obtain ⟨h1, h2⟩ := write_read hM d
      rw [if_pos d, read (by omega) h2 hk, Option.bind_some, h1, if_pos rfl, same (by dsimp only; omega) (by omega), Option.bind_some, if_pos rfl]
      exact back_j1 (by omega) hk hb (by omega)
    · rw [if_neg d]
      exact back_j1 (by omega) hk hb (by omega)
end Go.Proofs.Ytcklkngljapecaa.Pure
