/- BitsLittle: for every number, count of bytes, bytes and place, the program's bytes and its reading back are the reference's, and what is told back is the number. No condition. -/
import Derived.Test.YtgdlbfkblopoeaaX5
import Derived.Test.YtgdlbfkblopoeaaL1
namespace Go.Proofs.Ytgdlbfkblopoeaa.Pure
open Go.RowKit Go.Proofs.Ytgdlbfkblopoeaa.X Go.Proofs.YtgdlbfkblopoeaaW.PrintWords Go.Proofs.YtgdlbfkblopoeaaW.PrintLast Go.Proofs.YtgdlbfkblopoeaaW.PrintMore Go.Proofs.Ytgdlbfkblopoeaa.Bx Go.Proofs.Ytgdlbfkblopoeaa.Nx Go.Proofs.Ytgdlbfkblopoeaa.L1

theorem small_of {n : Int} {m : Nat} (h : n / 2 ^ (8 * m) = 0) : n % 256 ^ m = n := by
  rw [pow256]
  have hp : (0 : Int) < 2 ^ (8 * m) := Int.pow_pos (by decide)
  have e := Int.mul_ediv_add_emod n (2 ^ (8 * m))
  rw [h] at e; omega

theorem BitsLittle : marquetrylaw01_BitsLittle.Pure := by
  intro n m b a hn hm hb ha
  obtain ⟨n0, n1⟩ := wf_u64 hn
  obtain ⟨m0, m1⟩ := wf_i64 hm
  obtain ⟨a0, a1⟩ := wf_i64 ha
  have hb' : ∀ x ∈ b, 0 ≤ x ∧ x ≤ 255 := fun x hx => wf_u8 (hb.1 x hx)
  have hl : b.length ≤ 9223372036854775000 := by have := hb.2.2; omega
  refine ⟨70, ?_⟩
  unfold marquetrylaw01_BitsLittle.f
  by_cases c : (b.length : Int) > 2000
  · rw [if_pos c]
  rw [if_neg c, little (by omega) m0 m1, Option.bind_some, ref_little (by omega) n0 n1 m0 m1, Option.bind_some, if_pos rfl]
  simp only [bne_self_eq_false, marquetrylaw01_BitsLittle.j0, Bool.false_eq_true, if_false]
  rw [readLittle (by omega) hb' hl a1, Option.bind_some, ref_readLittle (by omega) hb' hl a1, Option.bind_some, if_pos rfl, if_pos rfl]
  have hw : ∀ x ∈ (LittleR n m).1, 0 ≤ x ∧ x ≤ 255 := by
    unfold LittleR; split
    · intro x hx; simp at hx
    · exact leb_range _ _
  have hwl : (LittleR n m).1.length ≤ 8 := by
    unfold LittleR; split
    · simp
    · simp [leb_length]; omega
  rw [readLittle (by omega) hw (by omega) (by omega), Option.bind_some]
  by_cases d : m < 0 ∨ m > 8 ∨ (m < 8 ∧ n / 2 ^ (8 * m).toNat ≠ 0)
  · have e : (LittleR n m).2 = 2 := by unfold LittleR; rw [if_pos d]
    rw [e, if_neg (by decide)]
  · have e : LittleR n m = (leb m.toNat n, 0) := by unfold LittleR; rw [if_neg d]
    rw [e]
    have w : win (leb m.toNat n) (0 : Int).toNat (m.toNat : Int).toNat = leb m.toNat n := by
      have := win_all (leb m.toNat n)
      rw [leb_length] at this
      rw [show (m.toNat : Int).toNat = m.toNat from rfl, show (0 : Int).toNat = 0 from rfl]; exact this
    have q : n % 256 ^ m.toNat = n := by
      by_cases g : m = 8
      · subst g
        have h8 : (256 : Int) ^ (8 : Int).toNat = 18446744073709551616 := by decide
        rw [h8]; omega
      · refine small_of ?_
        rw [show 8 * m.toNat = (8 * m).toNat by omega]
        exact Decidable.not_not.1 (fun h => d (.inr (.inr ⟨by omega, h⟩)))
    have r : ReadLittleR (leb m.toNat n) 0 ((leb m.toNat n).length : Int) = (n, 0) := by
      unfold ReadLittleR
      rw [leb_length, if_neg (by omega), if_neg (by omega), w, leS_leb, q]
    rw [r, if_pos rfl, if_pos rfl]; rfl

end Go.Proofs.Ytgdlbfkblopoeaa.Pure
