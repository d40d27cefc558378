/- Layer 11, writing: the reference comes to the same bytes. -/
import Derived.Test.YtpibhiacmceekaaX10
import Derived.Test.YtpibhiacmceekaaX14
import Derived.Test.YtpibhiacmceekaaX15
import Derived.Test.YtpibhiacmceekaaL11t
namespace Go.Proofs.Ytpibhiacmceekaa.L11
set_option linter.unusedVariables false
set_option linter.unusedSimpArgs false
open Go.RowKit Go.Proofs.Ytpibhiacmceekaa.X Go.Proofs.YtpibhiacmceekaaW.PrintWords Go.Proofs.YtpibhiacmceekaaW.PrintLast Go.Proofs.YtpibhiacmceekaaW.PrintMore Go.Proofs.Ytpibhiacmceekaa.Bx Go.Proofs.Ytpibhiacmceekaa.Nx Go.Proofs.Ytpibhiacmceekaa.L1 Go.Proofs.Ytpibhiacmceekaa.Px

theorem fillN_len8 (xs : List Int) (n : Nat) (h : xs.length = n) : (((fillN xs ((n + 7) / 8 * 8)).length : Int) % 8 != 0) = false := by
  rw [fill_length _ _ (by omega)]
  simp
theorem ref_run (W : Nat) (hW : W ≤ 32) (l out : List Int) (at_ k : Nat) (hl : l.length ≤ 100000) (ha : at_ < l.length) (hx : ∀ x ∈ l, 0 ≤ x ∧ x ≤ 9223372036854775807) (ho : out.length ≤ 1000000000000) (hk : l.length + 100 ≤ k) (d : 8 ≤ sameN (l.drop at_)) :
    marquetryref11_Told.l0 (k + 1) (W : Int) l out (at_ : Int) = marquetryref11_Told.l0 k (W : Int) l (out ++ runS W (l.drop at_)) ((at_ + sameN (l.drop at_) : Nat) : Int) := by
  have hs := sameN_le (l.drop at_)
  have hd : (l.drop at_).length = l.length - at_ := List.length_drop
  have hv := vb_length64 (n := 2 * sameN (l.drop at_)) (by omega)
  have h0 := first_range (l := l.drop at_) (by omega) (fun x h => hx x (List.mem_of_mem_drop h))
  have e2 : IntKind.u64.wrap (rd l (at_ : Int)) = (l.drop at_).getD 0 0 := by
    have : rd l (at_ : Int) = (l.drop at_).getD 0 0 := by rw [getD_drop]; rfl
    rw [this, u64w]; omega
  have hL := LittleR_len ((l.drop at_).getD 0 0) (((W + 7) / 8 : Nat) : Int)
  rw [marquetryref11_Told.l0, if_pos (by omega), ref_same (by omega) (by omega) (by omega), Option.bind_some, if_pos (by omega), if_pos (by omega), e2, wr_bytes (by omega), ref_little (by omega) (by omega) (by omega) (by omega) (by omega), Option.bind_some, wr_two (by omega), ref_varint (by omega) (by omega) (by omega), Option.bind_some, show (((2 * sameN (l.drop at_) : Nat) : Int)).toNat = 2 * sameN (l.drop at_) from rfl, if_pos (by omega), Option.bind_some, if_pos (by rw [List.length_append]; omega), w64a (by omega), List.append_assoc]
  rfl
theorem ref_pack1 (W : Nat) (hW : W ≤ 32) (l out : List Int) (at_ k n : Nat) (hl : l.length ≤ 100000) (ha : at_ < l.length) (hx : ∀ x ∈ l, 0 ≤ x ∧ x ≤ 9223372036854775807) (ho : out.length ≤ 1000000000000) (hk : 70 * l.length + 1000 ≤ k) (d : ¬ 8 ≤ sameN (l.drop at_)) (hn : n = packsN (l.drop at_) (l.drop at_).length 0) :
    marquetryref11_Told.l0 (k + 2 + 2 * ((n + 7) / 8 * 8) + 1) (W : Int) l out (at_ : Int) = marquetryref11_Told.l0 k (W : Int) l (out ++ packS W n (l.drop at_)) ((at_ + n : Nat) : Int) := by
  have hd : (l.drop at_).length = l.length - at_ := List.length_drop
  have hn1 : n ≤ l.length - at_ := by rw [hn, ← hd]; exact packsN_le (l.drop at_) (l.drop at_).length 0 (by omega)
  rw [marquetryref11_Told.l0, if_pos (by omega), ref_same (by omega) (by omega) (by omega), Option.bind_some, if_neg (by omega), ref_packs (by omega) (by omega) (by omega), Option.bind_some, ← hn]
  clear hn d
  have htl : ((l.drop at_).take n).length = n := by rw [List.length_take]; omega
  have hxt : ∀ x ∈ (l.drop at_).take n, 0 ≤ x ∧ x ≤ 9223372036854775807 := fun x h => hx x (List.mem_of_mem_drop (List.mem_of_mem_take h))
  have hfl := ref_fill (k + 2) (W : Int) l out at_ n (by omega) (by omega) hx ((n + 7) / 8 * 8) rfl ((n + 7) / 8 * 8) 0 (by omega)
  rw [List.take_zero, show fillN ([] : List Int) 0 = [] from rfl, show ((0 : Nat) : Int) = 0 from rfl] at hfl
  rw [hfl]
  clear hfl
  have hM := fill_length ((l.drop at_).take n) ((n + 7) / 8 * 8) (by omega)
  have hxf := fill_range ((n + 7) / 8 * 8) hxt
  have hv := vb_length64 (n := (n + 7) / 8 * 2 + 1) (by omega)
  have hP := PackR_len (W : Int) (fillN ((l.drop at_).take n) ((n + 7) / 8 * 8))
  rw [marquetryref11_Told.l1, if_neg (by omega), fillN_len8 _ _ htl, marquetryref11_Told.j2, if_neg (by simp), ref_pack (by omega) hxf (by omega), Option.bind_some, hM, wr_head' (by omega), ref_varint (by omega) (by omega) (by omega), Option.bind_some, show ((((n + 7) / 8 * 2 + 1 : Nat) : Int)).toNat = (n + 7) / 8 * 2 + 1 from rfl, if_pos (by omega), Option.bind_some, if_pos (by rw [List.length_append]; omega), w64a (by omega), List.append_assoc]
  rfl
theorem ref_told (W : Nat) (hW : W ≤ 32) (l : List Int) (hl : l.length ≤ 100000) (hx : ∀ x ∈ l, 0 ≤ x ∧ x ≤ 9223372036854775807) : ∀ (f at_ k : Nat) (out : List Int), l.length - at_ ≤ f → at_ ≤ l.length → out.length + (l.length - at_) * 2000000 ≤ 1000000000000 → 2000 + 70 * l.length + 20 * (l.length - at_) ≤ k →
    marquetryref11_Told.l0 k (W : Int) l out (at_ : Int) = some (out ++ toldS W f (l.drop at_))
  | 0, at_, k, out, hf, ha, ho, hk => by
    obtain ⟨k, rfl⟩ : ∃ j, k = j + 1 := ⟨k - 1, by omega⟩
    rw [marquetryref11_Told.l0, if_neg (by omega)]
    simp only [toldS, List.append_nil]
  | f + 1, at_, k, out, hf, ha, ho, hk => by
    have hd : (l.drop at_).length = l.length - at_ := List.length_drop
    by_cases c : (l.drop at_).length = 0
    · obtain ⟨k, rfl⟩ : ∃ j, k = j + 1 := ⟨k - 1, by omega⟩
      rw [marquetryref11_Told.l0, toldS, if_neg (by omega), if_pos c, List.append_nil]
    rw [toldS, if_neg c]
    have hs := sameN_le (l.drop at_)
    by_cases d : 8 ≤ sameN (l.drop at_)
    · obtain ⟨k, rfl⟩ : ∃ j, k = j + 1 := ⟨k - 1, by omega⟩
      have hr := runS_len W (l.drop at_) (by omega)
      rw [ref_run W hW l out at_ k hl (by omega) hx (by omega) (by omega) d, ref_told W hW l hl hx f (at_ + sameN (l.drop at_)) k (out ++ runS W (l.drop at_)) (by omega) (by omega) (by rw [List.length_append]; omega) (by omega), if_pos d, List.append_assoc, List.drop_drop]
      rfl
    · have hp1 := packsN_pos (l := l.drop at_) (by omega)
      have hp2 := packsN_le (l.drop at_) (l.drop at_).length 0 (by omega)
      rw [if_neg d]
      obtain ⟨n, hn⟩ : ∃ n, n = packsN (l.drop at_) (l.drop at_).length 0 := ⟨_, rfl⟩
      rw [← hn] at hp1 hp2 ⊢
      obtain ⟨k, rfl⟩ : ∃ j, k = j + 2 + 2 * ((n + 7) / 8 * 8) + 1 := ⟨k - 2 - 2 * ((n + 7) / 8 * 8) - 1, by omega⟩
      have hr := packS_len W n (l.drop at_) (by omega)
      rw [ref_pack1 W hW l out at_ k n hl (by omega) hx (by omega) (by omega) d hn, ref_told W hW l hl hx f (at_ + n) k (out ++ packS W n (l.drop at_)) (by omega) (by omega) (by rw [List.length_append]; omega) (by omega), List.append_assoc, List.drop_drop]
      rfl
end Go.Proofs.Ytpibhiacmceekaa.L11
