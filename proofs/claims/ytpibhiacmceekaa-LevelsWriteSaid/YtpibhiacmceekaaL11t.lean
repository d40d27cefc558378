/- Layer 11, writing: the bytes of numbers, run by run: one spec; the program comes to it. -/
import Derived.Test.YtpibhiacmceekaaX10
import Derived.Test.YtpibhiacmceekaaX14
import Derived.Test.YtpibhiacmceekaaL11w
import Derived.Test.YtpibhiacmceekaaL1t
import Derived.Test.YtpibhiacmceekaaL1p
namespace Go.Proofs.Ytpibhiacmceekaa.L11
set_option linter.unusedVariables false
set_option linter.unusedSimpArgs false
open Go.RowKit Go.Proofs.Ytpibhiacmceekaa.X Go.Proofs.YtpibhiacmceekaaW.PrintWords Go.Proofs.YtpibhiacmceekaaW.PrintLast Go.Proofs.YtpibhiacmceekaaW.PrintMore Go.Proofs.Ytpibhiacmceekaa.Bx Go.Proofs.Ytpibhiacmceekaa.Nx Go.Proofs.Ytpibhiacmceekaa.L1 Go.Proofs.Ytpibhiacmceekaa.Px

/-- The bytes of numbers. -/
def toldS (W : Nat) : Nat → List Int → List Int
  | 0, _ => []
  | f + 1, l => if l.length = 0 then [] else if 8 ≤ sameN l then vb (2 * sameN l) ++ (LittleR (l.getD 0 0) (((W + 7) / 8 : Nat) : Int)).1 ++ toldS W f (l.drop (sameN l))
    else vb ((packsN l l.length 0 + 7) / 8 * 2 + 1) ++ (PackR (W : Int) (fillN (l.take (packsN l l.length 0)) ((packsN l l.length 0 + 7) / 8 * 8))).1 ++ toldS W f (l.drop (packsN l l.length 0))
theorem packsN_le (l : List Int) : ∀ (f n : Nat), n ≤ l.length → packsN l f n ≤ l.length
  | 0, n, h => h
  | f + 1, n, h => by
    unfold packsN
    split
    · split
      · omega
      · split
        · omega
        · exact packsN_le l f (n + 8) (by omega)
    · exact h
theorem packsN_ge (l : List Int) : ∀ (f n : Nat), n ≤ l.length → n ≤ packsN l f n
  | 0, n, h => Nat.le_refl _
  | f + 1, n, h => by
    unfold packsN
    split
    · split
      · omega
      · split
        · omega
        · have := packsN_ge l f (n + 8) (by omega); omega
    · omega
theorem packsN_pos {l : List Int} (h : 0 < l.length) : 1 ≤ packsN l l.length 0 := by
  obtain ⟨f, hf⟩ : ∃ f, l.length = f + 1 := ⟨l.length - 1, by omega⟩
  rw [hf]
  unfold packsN
  rw [if_pos (by omega)]
  split
  · omega
  · split
    · omega
    · have := packsN_ge l f (0 + 8) (by omega); omega
theorem LittleR_len (n m : Int) : (LittleR n m).1.length ≤ 8 := by
  unfold LittleR
  split
  · simp
  · simp only [leb_length]; omega
theorem PackR_len (w : Int) (l : List Int) : (PackR w l).1.length ≤ 1048576 := by
  unfold PackR
  split
  · simp
  · split
    · split
      · rename_i h1 h2 h3
        obtain ⟨q1, q2, q3, q4, q5, q6⟩ := SizeR_ok h3
        obtain ⟨V, rfl⟩ := Int.eq_ofNat_of_zero_le q1
        have hm : ((l.length * V : Nat) : Int) = (l.length : Int) * (V : Int) := Int.natCast_mul _ _
        simp only [packB_length, allBits_length, show ((V : Int)).toNat = V from rfl]
        omega
      · simp
    · simp
theorem wr_two {n : Nat} (h : n ≤ 100000000) : IntKind.u64.wrap (wrap64 (2 * (n : Int))) = ((2 * n : Nat) : Int) := by rw [w64 (by omega) (by omega), u64w]; omega
theorem wr_bytes {W : Nat} (h : W ≤ 64) : wrap64 (Int.tdiv (wrap64 ((W : Int) + 7)) 8) = (((W + 7) / 8 : Nat) : Int) := by
  rw [w64 (a := (W : Int) + 7) (by omega) (by omega), Int.tdiv_eq_ediv_of_nonneg (by omega), w64 (by omega) (by omega)]; omega
theorem wr_groups {n : Nat} (h : n ≤ 100000000) : wrap64 (wrap64 (Int.tdiv (wrap64 ((n : Int) + 7)) 8) * 8) = (((n + 7) / 8 * 8 : Nat) : Int) := by
  have a : wrap64 ((n : Int) + 7) = ((n + 7 : Nat) : Int) := w64a (m := 7) (by omega)
  have b : wrap64 (Int.tdiv ((n + 7 : Nat) : Int) 8) = (((n + 7) / 8 : Nat) : Int) := w64d (by omega)
  rw [a, b]
  clear a b
  rw [w64 (by omega) (by omega)]; omega
theorem wr_eighth {n : Nat} (h : n ≤ 100000000) : wrap64 ((((n + 7) / 8 * 8 : Nat) : Int) / 8) = (((n + 7) / 8 : Nat) : Int) := by rw [w64 (by omega) (by omega)]; omega
theorem wr_head {n : Nat} (h : n ≤ 100000000) : IntKind.u64.wrap (wrap64 (wrap64 (wrap64 ((((n + 7) / 8 * 8 : Nat) : Int) / 8) * 2) + 1)) = (((n + 7) / 8 * 2 + 1 : Nat) : Int) := by
  rw [wr_eighth h]
  obtain ⟨m, hm⟩ : ∃ m, m = (n + 7) / 8 := ⟨_, rfl⟩
  rw [← hm]
  have hm' : m ≤ 100000000 := by omega
  clear hm h
  have b : wrap64 ((m : Int) * 2) = ((m * 2 : Nat) : Int) := by rw [w64 (by omega) (by omega)]; omega
  rw [b, w64s' (by omega), u64w]; clear b; omega
theorem wr_head' {n : Nat} (h : n ≤ 100000000) : IntKind.u64.wrap (wrap64 (wrap64 (2 * wrap64 ((((n + 7) / 8 * 8 : Nat) : Int) / 8)) + 1)) = (((n + 7) / 8 * 2 + 1 : Nat) : Int) := by
  rw [Int.mul_comm 2]; exact wr_head h
theorem fill_range {xs : List Int} (M : Nat) (h : ∀ x ∈ xs, 0 ≤ x ∧ x ≤ 9223372036854775807) : ∀ x ∈ fillN xs M, 0 ≤ x ∧ x ≤ 18446744073709551615 := by
  intro x hx
  unfold fillN at hx
  rcases List.mem_append.1 hx with hx | hx
  · have := h x hx; omega
  · rw [(List.mem_replicate.1 hx).2]; omega
theorem first_range {l : List Int} (h : 0 < l.length) (hx : ∀ x ∈ l, 0 ≤ x ∧ x ≤ 9223372036854775807) : 0 ≤ l.getD 0 0 ∧ l.getD 0 0 ≤ 9223372036854775807 := by
  rw [List.getD_eq_getElem?_getD, List.getElem?_eq_getElem h]; exact hx _ (List.getElem_mem h)
/-- The bytes of a run, of a pack. -/
def runS (W : Nat) (l : List Int) : List Int := vb (2 * sameN l) ++ (LittleR (l.getD 0 0) (((W + 7) / 8 : Nat) : Int)).1
def packS (W n : Nat) (l : List Int) : List Int := vb ((n + 7) / 8 * 2 + 1) ++ (PackR (W : Int) (fillN (l.take n) ((n + 7) / 8 * 8))).1
theorem runS_len (W : Nat) (l : List Int) (h : l.length ≤ 100000) : (runS W l).length ≤ 20 := by
  have := sameN_le l
  have := LittleR_len (l.getD 0 0) (((W + 7) / 8 : Nat) : Int)
  have := vb_length64 (n := 2 * sameN l) (by omega)
  unfold runS; rw [List.length_append]; omega
theorem packS_len (W n : Nat) (l : List Int) (h : n ≤ 100000) : (packS W n l).length ≤ 1100000 := by
  have := PackR_len (W : Int) (fillN (l.take n) ((n + 7) / 8 * 8))
  have := vb_length64 (n := (n + 7) / 8 * 2 + 1) (by omega)
  unfold packS; rw [List.length_append]; omega
theorem prog_run (W : Nat) (hW : W ≤ 32) (l out : List Int) (k : Nat) (hl : l.length ≤ 100000) (hl0 : 0 < l.length) (hx : ∀ x ∈ l, 0 ≤ x ∧ x ≤ 9223372036854775807) (ho : out.length ≤ 1000000000000) (hk : l.length + 100 ≤ k) (d : 8 ≤ sameN l) :
    hybrid_Write.l1 (k + 1) (W : Int) l out = hybrid_Write.l1 k (W : Int) (l.drop (sameN l)) (out ++ runS W l) := by
  have hs := sameN_le l
  have hv := vb_length64 (n := 2 * sameN l) (by omega)
  have h0 := first_range hl0 hx
  have e2 : IntKind.u64.wrap (rd l 0) = l.getD 0 0 := by
    have : rd l 0 = l.getD 0 0 := rfl
    rw [this, u64w]; omega
  have hL := LittleR_len (l.getD 0 0) (((W + 7) / 8 : Nat) : Int)
  rw [hybrid_Write.l1, if_pos (by omega), same (by omega) (by omega), Option.bind_some, if_pos (by omega), wr_two (by omega), varint (by omega) (by omega) (by omega), Option.bind_some, show (((2 * sameN l : Nat) : Int)).toNat = 2 * sameN l from rfl, if_pos (by omega), Option.bind_some, if_pos (by omega), e2, wr_bytes (by omega), little (by omega) (by omega) (by omega), Option.bind_some, if_pos (by rw [List.length_append]; omega), if_pos (by omega), if_pos (by omega), show (((sameN l : Nat) : Int)).toNat = sameN l from rfl, List.append_assoc]
  rfl
theorem prog_pack (W : Nat) (hW : W ≤ 32) (l out : List Int) (k n : Nat) (hl : l.length ≤ 100000) (hl0 : 0 < l.length) (hx : ∀ x ∈ l, 0 ≤ x ∧ x ≤ 9223372036854775807) (ho : out.length ≤ 1000000000000) (hk : 2 * l.length + 100 ≤ k) (d : ¬ 8 ≤ sameN l) (hn : n = packsN l l.length 0) :
    hybrid_Write.l1 (k + 1 + n + 1) (W : Int) l out = hybrid_Write.l1 k (W : Int) (l.drop n) (out ++ packS W n l) := by
  have hn1 : n ≤ l.length := by rw [hn]; exact packsN_le l l.length 0 (by omega)
  rw [hybrid_Write.l1, if_pos (by omega), same (by omega) (by omega), Option.bind_some, if_neg (by omega), packs (by omega) (by omega), Option.bind_some, ← hn]
  clear hn d
  have htl : (l.take n).length = n := by rw [List.length_take]; omega
  have hxt : ∀ x ∈ l.take n, 0 ≤ x ∧ x ≤ 9223372036854775807 := fun x h => hx x (List.mem_of_mem_take h)
  have hfl := fill_l2 k (W : Int) l out (l.take n) (n : Int) ((n + 7) / 8 * 8) (by omega) (by omega) hxt n 0 (by omega)
  rw [List.take_zero, show fillN ([] : List Int) ((n + 7) / 8 * 8) = List.replicate ((n + 7) / 8 * 8) 0 by simp [fillN], show ((0 : Nat) : Int) = 0 from rfl] at hfl
  rw [wr_groups (by omega), if_pos (by omega), show ((((n + 7) / 8 * 8 : Nat) : Int)).toNat = (n + 7) / 8 * 8 from rfl, if_pos (by omega), if_pos (by omega), if_pos (by omega), show ((n : Int)).toNat = n from rfl, Option.bind_some, hfl]
  clear hfl
  have hM := fill_length (l.take n) ((n + 7) / 8 * 8) (by omega)
  have hxf := fill_range ((n + 7) / 8 * 8) hxt
  have hv := vb_length64 (n := (n + 7) / 8 * 2 + 1) (by omega)
  have hP := PackR_len (W : Int) (fillN (l.take n) ((n + 7) / 8 * 8))
  rw [hybrid_Write.l2, if_neg (by omega), hM, wr_head (by omega), varint (by omega) (by omega) (by omega), Option.bind_some, show ((((n + 7) / 8 * 2 + 1 : Nat) : Int)).toNat = (n + 7) / 8 * 2 + 1 from rfl, if_pos (by omega), Option.bind_some, pack (by omega) hxf, Option.bind_some, if_pos (by rw [List.length_append]; omega), if_pos (by omega), if_pos (by omega), show ((n : Int)).toNat = n from rfl, List.append_assoc]
  rfl
theorem prog_told (W : Nat) (hW : W ≤ 32) : ∀ (f : Nat) (l : List Int) (k : Nat) (out : List Int), l.length ≤ f → l.length ≤ 100000 → (∀ x ∈ l, 0 ≤ x ∧ x ≤ 9223372036854775807) → out.length + l.length * 2000000 ≤ 1000000000000 → 1000 + 5 * l.length ≤ k →
    hybrid_Write.l1 k (W : Int) l out = some (if ((out ++ toldS W f l).length : Int) > 1048576 then ([], 3) else (out ++ toldS W f l, 0))
  | 0, l, k, out, hf, hl, hx, ho, hk => by
    obtain ⟨k, rfl⟩ : ∃ j, k = j + 1 := ⟨k - 1, by omega⟩
    rw [hybrid_Write.l1, if_neg (by omega)]
    simp only [toldS, List.append_nil]
    split <;> rfl
  | f + 1, l, k, out, hf, hl, hx, ho, hk => by
    by_cases c : l.length = 0
    · obtain ⟨k, rfl⟩ : ∃ j, k = j + 1 := ⟨k - 1, by omega⟩
      rw [hybrid_Write.l1, toldS, if_neg (by omega), if_pos c, List.append_nil]
      split <;> rfl
    rw [toldS, if_neg c]
    by_cases d : 8 ≤ sameN l
    · obtain ⟨k, rfl⟩ : ∃ j, k = j + 1 := ⟨k - 1, by omega⟩
      have hr := runS_len W l hl
      have hd : (l.drop (sameN l)).length ≤ l.length - 8 := by rw [List.length_drop]; omega
      rw [prog_run W hW l out k hl (by omega) hx (by omega) (by omega) d, prog_told W hW f (l.drop (sameN l)) k (out ++ runS W l) (by omega) (by omega) (fun x h => hx x (List.mem_of_mem_drop h)) (by rw [List.length_append]; omega) (by omega), if_pos d, List.append_assoc]
      rfl
    · have hp1 := packsN_pos (l := l) (by omega)
      have hp2 := packsN_le l l.length 0 (by omega)
      rw [if_neg d]
      obtain ⟨n, hn⟩ : ∃ n, n = packsN l l.length 0 := ⟨_, rfl⟩
      rw [← hn] at hp1 hp2 ⊢
      obtain ⟨k, rfl⟩ : ∃ j, k = j + 1 + n + 1 := ⟨k - n - 2, by omega⟩
      have hr := packS_len W n l (by omega)
      have hd : (l.drop n).length = l.length - n := List.length_drop
      rw [prog_pack W hW l out k n hl (by omega) hx (by omega) (by omega) d hn, prog_told W hW f (l.drop n) k (out ++ packS W n l) (by omega) (by omega) (fun x h => hx x (List.mem_of_mem_drop h)) (by rw [List.length_append]; omega) (by omega), List.append_assoc]
      rfl
end Go.Proofs.Ytpibhiacmceekaa.L11
