/- DictRead: for every bytes, size and count both give the same numbers or refusal, and what was read, written, is read as the same. No condition. -/
import Derived.Test.YtpibhiacmceekaaGDictRead3
import Derived.Test.YtpibhiacmceekaaGDictRead4
namespace Go.Proofs.Ytpibhiacmceekaa.Pure
open Go.RowKit Go.Proofs.Ytpibhiacmceekaa.X Go.Proofs.YtpibhiacmceekaaW.PrintWords Go.Proofs.YtpibhiacmceekaaW.PrintLast Go.Proofs.YtpibhiacmceekaaW.PrintMore Go.Proofs.Ytpibhiacmceekaa.Bx Go.Proofs.Ytpibhiacmceekaa.Nx Go.Proofs.Ytpibhiacmceekaa.L1 Go.Proofs.Ytpibhiacmceekaa.L11 Go.Proofs.Ytpibhiacmceekaa.L12
set_option linter.unusedVariables false
set_option linter.unusedSimpArgs false

/-- Some entry is no entry of a dictionary of n. -/
def drOut (n x : Int) : Bool := !decide (x < n)
def DictReadR (b : List Int) (n c : Int) : List Int × Int :=
  if n < 0 ∨ c < 0 then ([], 2) else if 65536 < n ∨ 65536 < c ∨ 1048576 < (b.length : Int) then ([], 3) else
    if b.length = 0 then ([], 6) else if 32 < rd b 0 then ([], 120) else
      if (ReadR (b.drop 1) (rd b 0) c).2 = 0 then (if (ReadR (b.drop 1) (rd b 0) c).1.any (drOut n) = true then ([], 4) else ((ReadR (b.drop 1) (rd b 0) c).1, 0)) else ([], (ReadR (b.drop 1) (rd b 0) c).2)
theorem drop_u8 {b : List Int} (hb : ∀ x ∈ b, 0 ≤ x ∧ x ≤ 255) (n : Nat) : ∀ x ∈ b.drop n, 0 ≤ x ∧ x ≤ 255 := fun x h => hb x (List.mem_of_mem_drop h)
theorem rd_u8 {b : List Int} (hb : ∀ x ∈ b, 0 ≤ x ∧ x ≤ 255) : 0 ≤ rd b 0 ∧ rd b 0 ≤ 255 := by
  cases b with
  | nil => exact ⟨by decide, by decide⟩
  | cons a t => exact hb a (List.mem_cons_self ..)
theorem dict_read {b : List Int} (hb : ∀ x ∈ b, 0 ≤ x ∧ x ≤ 255) {n c : Int} {k : Nat} (hk : 65700 ≤ k) : dict_Read.f k b n c = some (DictReadR b n c) := by
  have hr := rd_u8 hb
  unfold dict_Read.f DictReadR
  by_cases c1 : n < 0
  · rw [if_pos c1, if_pos (Or.inl c1)]
  by_cases c2 : c < 0
  · rw [if_neg c1, if_pos c2, if_pos (Or.inr c2)]
  rw [if_neg c1, if_neg c2, if_neg (show ¬ (n < 0 ∨ c < 0) by omega)]
  by_cases c3 : 65536 < n
  · rw [if_pos c3, if_pos (Or.inl c3)]
  by_cases c4 : 65536 < c
  · rw [if_neg c3, if_pos c4, if_pos (Or.inr (Or.inl c4))]
  by_cases c5 : 1048576 < (b.length : Int)
  · rw [if_neg c3, if_neg c4, if_pos c5, if_pos (Or.inr (Or.inr c5))]
  rw [if_neg c3, if_neg c4, if_neg c5, if_neg (show ¬ (65536 < n ∨ 65536 < c ∨ 1048576 < (b.length : Int)) by omega)]
  by_cases c6 : b.length = 0
  · rw [if_pos c6, if_pos c6]
  rw [if_neg c6, if_neg c6]
  by_cases c7 : 32 < rd b 0
  · rw [if_pos c7, if_pos c7]
  rw [if_neg c7, if_neg c7, if_neg (by omega), read (drop_u8 hb 1) hk, Option.bind_some]
  have hany : ∀ l : List Int, l.any (fun x => !decide (x < n)) = l.any (drOut n) := fun _ => rfl
  rw [hany]
  by_cases c8 : (ReadR (b.drop 1) (rd b 0) c).2 = 0
  · rw [if_pos c8, if_pos c8]
    by_cases c9 : (ReadR (b.drop 1) (rd b 0) c).1.any (drOut n) = true
    · rw [if_pos c9, if_pos c9]
    · rw [if_neg c9, if_neg c9]
  · rw [if_neg c8, if_neg c8]
theorem ref_dr_l (n : Int) (l : List Int) (hl : l.length ≤ 100000) : ∀ (d i k : Nat), i + d = l.length → d < k →
    marquetryref11_DictRead.l0 k n l (i : Int) = if (l.drop i).any (drOut n) = true then some ([], 4) else some (l, 0)
  | 0, i, k, hi, hk => by
    obtain ⟨k, rfl⟩ : ∃ j, k = j + 1 := ⟨k - 1, by omega⟩
    rw [marquetryref11_DictRead.l0, if_neg (by omega), List.drop_eq_nil_of_le (by omega), if_neg (by simp)]
  | d + 1, i, k, hi, hk => by
    obtain ⟨k, rfl⟩ : ∃ j, k = j + 1 := ⟨k - 1, by omega⟩
    have hr : rd l (i : Int) = l.getD i 0 := rfl
    rw [marquetryref11_DictRead.l0, if_pos (by omega), if_pos (by omega), hr, drop_cons (by omega), List.any_cons]
    by_cases c : l.getD i 0 ≥ n
    · rw [if_pos c, show drOut n (l.getD i 0) = true by unfold drOut; rw [decide_eq_false (by omega)]; rfl, if_pos (by rfl)]
    · rw [if_neg c, show drOut n (l.getD i 0) = false by unfold drOut; rw [decide_eq_true (by omega)]; rfl, Bool.false_or, w64s' (by omega), ref_dr_l n l hl d (i + 1) k (by omega) (by omega)]
theorem ReadR_len {b : List Int} (hb : ∀ x ∈ b, 0 ≤ x ∧ x ≤ 255) {W c : Int} : (ReadR b W c).1.length ≤ 65536 := by
  by_cases h : (ReadR b W c).2 = 0
  · have := ReadR_ok hb h; omega
  · rw [ReadR_bad h]; simp
theorem ref_dict_read {b : List Int} (hb : ∀ x ∈ b, 0 ≤ x ∧ x ≤ 255) (hl : b.length ≤ 100000) {n c : Int} {k : Nat} (hk : 200000003 ≤ k) : marquetryref11_DictRead.f k b n c = some (DictReadR b n c) := by
  have hr := rd_u8 hb
  obtain ⟨k, rfl⟩ : ∃ j, k = j + 1 + 1 := ⟨k - 2, by omega⟩
  unfold marquetryref11_DictRead.f DictReadR
  by_cases c1 : n < 0
  · rw [if_pos c1, if_pos (Or.inl c1), marquetryref11_DictRead.j0, if_pos rfl]
  rw [if_neg c1]
  by_cases c2 : c < 0
  · rw [decide_eq_true c2, if_pos (Or.inr c2), marquetryref11_DictRead.j0, if_pos rfl]
  rw [decide_eq_false c2, if_neg (show ¬ (n < 0 ∨ c < 0) by omega), marquetryref11_DictRead.j0, if_neg (by decide)]
  by_cases c3 : 65536 < n
  · rw [if_pos c3, if_pos (Or.inl c3), marquetryref11_DictRead.j1, if_pos rfl]
  rw [if_neg (show ¬ n > 65536 by omega)]
  by_cases c4 : 65536 < c
  · rw [if_pos c4, if_pos (Or.inr (Or.inl c4)), marquetryref11_DictRead.j1, if_pos rfl]
  rw [if_neg (show ¬ c > 65536 by omega), decide_eq_false (show ¬ (b.length : Int) > 1048576 by omega), if_neg (show ¬ (65536 < n ∨ 65536 < c ∨ 1048576 < (b.length : Int)) by omega), marquetryref11_DictRead.j1, if_neg (by decide)]
  by_cases c6 : b.length = 0
  · rw [if_pos (by omega), if_pos c6]
  rw [if_neg (by omega), if_neg c6, if_pos (by omega)]
  by_cases c7 : 32 < rd b 0
  · rw [if_pos c7, if_pos c7]
  rw [if_neg (show ¬ rd b 0 > 32 by omega), if_neg c7, if_pos (by omega), w64 (by omega) (by omega)]
  obtain ⟨rs', hrs⟩ := ref_read (drop_u8 hb 1) (by rw [List.length_drop]; omega) (W := rd b 0) (count := c) (k := k) (by omega)
  rw [hrs, Option.bind_some]
  have hlen := ReadR_len (drop_u8 hb 1) (W := rd b 0) (c := c)
  by_cases c8 : (ReadR (b.drop 1) (rd b 0) c).2 = 0
  · have hp := ref_dr_l n (ReadR (b.drop 1) (rd b 0) c).1 (by omega) (ReadR (b.drop 1) (rd b 0) c).1.length 0 k (by omega) (by omega)
    rw [List.drop_zero, show ((0 : Nat) : Int) = 0 from rfl] at hp
    rw [if_pos c8, if_pos c8, hp]
    by_cases c9 : (ReadR (b.drop 1) (rd b 0) c).1.any (drOut n) = true
    · rw [if_pos c9, if_pos c9]
    · rw [if_neg c9, if_neg c9]
  · rw [if_neg c8, if_neg c8]
theorem DictReadR_ok {b : List Int} (hb : ∀ x ∈ b, 0 ≤ x ∧ x ≤ 255) {n c : Int} (h : (DictReadR b n c).2 = 0) :
    0 ≤ n ∧ n ≤ 65536 ∧ 0 ≤ c ∧ ((DictReadR b n c).1.length : Int) = c ∧ ∀ x ∈ (DictReadR b n c).1, 0 ≤ x ∧ x < n := by
  unfold DictReadR at h ⊢
  by_cases c1 : n < 0 ∨ c < 0
  · rw [if_pos c1] at h; exact absurd h (by simp)
  rw [if_neg c1] at h ⊢
  by_cases c2 : 65536 < n ∨ 65536 < c ∨ 1048576 < (b.length : Int)
  · rw [if_pos c2] at h; exact absurd h (by simp)
  rw [if_neg c2] at h ⊢
  by_cases c3 : b.length = 0
  · rw [if_pos c3] at h; exact absurd h (by simp)
  rw [if_neg c3] at h ⊢
  by_cases c4 : 32 < rd b 0
  · rw [if_pos c4] at h; exact absurd h (by simp)
  rw [if_neg c4] at h ⊢
  by_cases c5 : (ReadR (b.drop 1) (rd b 0) c).2 = 0
  · rw [if_pos c5] at h ⊢
    by_cases c6 : (ReadR (b.drop 1) (rd b 0) c).1.any (drOut n) = true
    · rw [if_pos c6] at h; exact absurd h (by simp)
    · rw [if_neg c6]
      obtain ⟨_, _, _, _, hok, hlen⟩ := ReadR_ok (drop_u8 hb 1) c5
      refine ⟨by omega, by omega, by omega, hlen, fun x hx => ⟨(hok x hx).1, ?_⟩⟩
      by_cases hn : x < n
      · exact hn
      · exact absurd (List.any_eq_true.2 ⟨x, hx, by unfold drOut; rw [decide_eq_false hn]; rfl⟩) c6
  · rw [if_neg c5] at h; exact absurd h c5
theorem dict_back {n : Int} {l : List Int} (hn0 : 0 ≤ n) (hn : n ≤ 65536) (hl : l.length ≤ 10000) (h : ∀ x ∈ l, 0 ≤ x ∧ x < n) :
    DictWriteR n l = ([((dwW n : Nat) : Int)] ++ toldS (dwW n) l.length l, 0) ∧ DictReadR ([((dwW n : Nat) : Int)] ++ toldS (dwW n) l.length l) n (l.length : Int) = (l, 0) := by
  have hW := dwW_le hn
  have hok := ok_dict h
  have hs := told_short (by omega) l.length l (by omega) hok
  have hbad : ¬ l.any (dwBad n) = true := fun hh => by
    obtain ⟨x, hx, hb⟩ := List.any_eq_true.1 hh
    have := h x hx
    unfold dwBad at hb
    simp at hb
    omega
  have hout : ¬ l.any (drOut n) = true := fun hh => by
    obtain ⟨x, hx, hb⟩ := List.any_eq_true.1 hh
    have := h x hx
    unfold drOut at hb
    simp at hb
    omega
  refine ⟨?_, ?_⟩
  · unfold DictWriteR
    rw [if_neg (by omega), if_neg hbad, if_neg (by omega), if_neg (by omega), if_neg (by omega)]
  · have hrd : rd ([((dwW n : Nat) : Int)] ++ toldS (dwW n) l.length l) 0 = ((dwW n : Nat) : Int) := rfl
    have hdr : ([((dwW n : Nat) : Int)] ++ toldS (dwW n) l.length l).drop 1 = toldS (dwW n) l.length l := rfl
    have hlen : ([((dwW n : Nat) : Int)] ++ toldS (dwW n) l.length l).length = (toldS (dwW n) l.length l).length + 1 := by rw [List.length_append]; simp; omega
    unfold DictReadR
    rw [hrd, hdr, hlen, if_neg (by omega), if_neg (by omega), if_neg (by omega), if_neg (by omega), read_back (by omega) hl hok]
    simp only [if_true]
    rw [if_neg hout]
theorem dict_u8 {n : Int} {l : List Int} (hn : n ≤ 65536) (hl : l.length ≤ 10000) (h : ∀ x ∈ l, 0 ≤ x ∧ x < n) : ∀ x ∈ [((dwW n : Nat) : Int)] ++ toldS (dwW n) l.length l, 0 ≤ x ∧ x ≤ 255 := by
  have hW := dwW_le hn
  intro x hx
  rcases List.mem_append.1 hx with hx | hx
  · rw [List.mem_singleton.1 hx]; omega
  · exact told_u8 (by omega) l.length l (by omega) (ok_dict h) x hx
theorem DictRead : marquetrylaw12_DictRead.Pure := by
  intro b n c hb hn hc
  have hb' : ∀ x ∈ b, 0 ≤ x ∧ x ≤ 255 := fun x h => wf_u8 (hb.1 x h)
  refine ⟨200000005, ?_⟩
  unfold marquetrylaw12_DictRead.f
  by_cases c1 : (b.length : Int) > 2000
  · rw [if_pos c1, marquetrylaw12_DictRead.j0, if_pos rfl]
  rw [if_neg c1]
  by_cases c2 : c > 4000
  · rw [decide_eq_true c2, marquetrylaw12_DictRead.j0, if_pos rfl]
  rw [decide_eq_false c2, marquetrylaw12_DictRead.j0, if_neg (by decide), dict_read hb' (by omega), Option.bind_some, ref_dict_read hb' (by omega) (by omega), Option.bind_some]
  obtain ⟨x, hx⟩ : ∃ x, x = (DictReadR b n c).1 := ⟨_, rfl⟩
  obtain ⟨e, he⟩ : ∃ e, e = (DictReadR b n c).2 := ⟨_, rfl⟩
  have hok : e = 0 → 0 ≤ n ∧ n ≤ 65536 ∧ 0 ≤ c ∧ (x.length : Int) = c ∧ ∀ y ∈ x, 0 ≤ y ∧ y < n := by
    intro h
    rw [hx]
    exact DictReadR_ok hb' (he ▸ h)
  have hxl : x.length ≤ 65536 := by
    by_cases h : e = 0
    · have := hok h; omega
    · have hnil : x = [] := by
        rw [hx]
        rw [he] at h
        clear hok hx he
        unfold DictReadR at h ⊢
        split
        · rfl
        · split
          · rfl
          · split
            · rfl
            · split
              · rfl
              · split
                · split
                  · rfl
                  · rename_i h1 h2 h3 h4 h5 h6
                    rw [if_neg h1, if_neg h2, if_neg h3, if_neg h4, if_pos h5, if_neg h6] at h
                    exact absurd rfl h
                · rfl
      rw [hnil]; simp
  rw [← hx, ← he, sameInts (by omega) (by omega), Option.bind_some, if_pos (by simp), bne_self_eq_false, marquetrylaw12_DictRead.j1, if_neg (by decide)]
  by_cases h : e = 0
  · obtain ⟨h0, h1, h2, h3, h4⟩ := hok h
    have hxi : ∀ y ∈ x, -9223372036854775808 ≤ y ∧ y ≤ 9223372036854775807 := fun y hy => by have := h4 y hy; omega
    obtain ⟨g1, g2⟩ := dict_back h0 h1 (by omega) h4
    rw [if_pos h, dict_write (by omega) (by omega) hxi, g1, Option.bind_some]
    simp only [if_true]
    rw [dict_read (dict_u8 h1 (by omega) h4) (by omega), g2, Option.bind_some]
    simp only [if_true]
    rw [sameInts (by omega) (by omega), Option.bind_some]
    simp
  · rw [if_neg h]
end Go.Proofs.Ytpibhiacmceekaa.Pure
