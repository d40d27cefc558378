/- StringsAgain: texts of this seat in one (wip/merge.py): Tb, Ge, Tc, Td, X51, Rd. -/
import Derived.Test.YtcdephhplmcmjaaGStringsAgain3
import Derived.Test.YtcdephhplmcmjaaGStringsAgain2
import Derived.Deep.RegionHeld3
import Derived.Test.YtcdephhplmcmjaaGStringsAgain0
import Derived.Deep.Slices
import Derived.Lib.SmallJoins
import Derived.SizedLaws
section
namespace Go.Proofs.Ytcdephhplmcmjaa.X
open Go.RowKit Go.Proofs.YtcdephhplmcmjaaW.PrintWords Go.Proofs.YtcdephhplmcmjaaW.PrintLast Go.Proofs.YtcdephhplmcmjaaW.PrintMore
set_option linter.unusedVariables false
set_option linter.unusedSimpArgs false
theorem ex_front (s : ByteArray) (n : Nat) : (s.extract 0 n).data.toList = s.data.toList.take n := by
  rw [ByteArray.data_extract]; simp
theorem ex_back (s : ByteArray) (n : Nat) : (s.extract n s.size).data.toList = s.data.toList.drop n := by
  rw [ByteArray.data_extract]
  simp
  rw [List.take_of_length_le (by rw [List.length_drop, data_length]; omega)]
theorem comL_take : ∀ (a b : List UInt8), a.take (comL a b) = b.take (comL a b)
  | [], b => by simp [comL]
  | a :: as_, [] => by simp [comL]
  | a :: as_, b :: bs => by
    rw [comL]
    split
    · rename_i h
      rw [List.take_succ_cons, List.take_succ_cons, comL_take as_ bs, h]
    · simp
theorem com_join (a b : ByteArray) : a.extract 0 (comZ a b) ++ b.extract (comZ a b) b.size = b := by
  apply ba_eq
  rw [ByteArray.data_append, Array.toList_append, ex_front, ex_back]
  unfold comZ
  rw [comL_take, List.take_append_drop]
theorem preT_back : ∀ (l : List ByteArray) (last : ByteArray) (sum : Int), 0 ≤ sum → sum + (totZ l : Int) ≤ 1048576 → preT (firstsZ (pairsF last l)) (restsZ (pairsF last l)) last sum = .ok l
  | [], last, sum, _, _ => rfl
  | s :: l, last, sum, h0, h => by
    rw [totZ] at h
    have hc := comZ_le last s
    have hz : (s.extract (comZ last s) s.size).size = s.size - comZ last s := by rw [ByteArray.size_extract]; omega
    have ih := preT_back l s (sum + (s.size : Int)) (by omega) (by omega)
    show preT (((comZ last s : Nat) : Int) :: firstsZ (pairsF s l)) (s.extract (comZ last s) s.size :: restsZ (pairsF s l)) last sum = _
    rw [preT, if_pos ⟨by omega, by omega⟩, if_pos (by rw [hz]; omega), hz, show ((comZ last s : Nat) : Int).toNat = comZ last s from rfl, com_join, show sum + (((comZ last s : Nat) : Int) + ((s.size - comZ last s : Nat) : Int)) = sum + (s.size : Int) by omega, ih]
theorem firsts_in {l : List ByteArray} (h : longZ l = false) : ∀ x ∈ firstsZ (pairsZ l), D13.inI x := fun x hx => by
  obtain ⟨p, hp, rfl⟩ := List.mem_map.1 hx
  obtain ⟨h1, h2, h3⟩ := pairsF_rests l ⟨#[]⟩ p hp
  have := size_le_tot l _ h3
  have := (longZ_no h).1
  unfold D13.inI
  omega
theorem firsts_len (l : List ByteArray) : (firstsZ (pairsZ l)).length = l.length := by rw [firstsZ_length, pairsZ, pairsF_length]
theorem rests_len (l : List ByteArray) : (restsZ (pairsZ l)).length = l.length := by rw [restsZ, List.length_map, pairsZ, pairsF_length]
theorem prefT_back {l : List ByteArray} (h : longZ l = false) (tl : List Int) : prefT (l.length : Int) ((prefixesZ l).1 ++ tl) ((prefixesZ l).1 ++ tl) = .ok (l, tl) := by
  obtain ⟨ht, hl⟩ := longZ_no h
  have hn := numsT_back (firsts_in h) (by rw [firsts_len]; exact hl) ((lengthsZ (restsZ (pairsZ l))).1 ++ tl)
  have hx := textsT_back (rests_short h) tl
  have hp := preT_back l ⟨#[]⟩ 0 (by omega) (by omega)
  rw [firsts_len] at hn
  rw [rests_len] at hx
  obtain ⟨wh, hwh⟩ : ∃ wh, wh = (prefixesZ l).1 ++ tl := ⟨_, rfl⟩
  have he : wh = D13.listB (firstsZ (pairsZ l)) ++ ((lengthsZ (restsZ (pairsZ l))).1 ++ tl) := by rw [hwh, prefixesZ_fine h, List.append_assoc]
  have ht2 : wh.take (wh.length - tl.length) = (prefixesZ l).1 := by
    rw [hwh, List.length_append, Nat.add_sub_cancel, List.take_left]
  rw [← hwh]
  unfold prefT
  rw [show numsT (l.length : Int) wh = .ok (firstsZ (pairsZ l), (lengthsZ (restsZ (pairsZ l))).1 ++ tl) by rw [he]; exact hn]
  simp only []
  rw [hx]
  simp only []
  rw [show preT (firstsZ (pairsZ l)) (restsZ (pairsZ l)) ⟨#[]⟩ 0 = .ok l from hp]
  simp only []
  rw [ht2, if_pos rfl]
theorem lengthsZ_u8 (l : List ByteArray) : ∀ x ∈ (lengthsZ l).1, 0 ≤ x ∧ x ≤ 255 := by
  unfold lengthsZ
  split
  · intro x hx; cases hx
  · intro x hx
    rcases List.mem_append.1 hx with hx | hx
    · exact D13.listB_range _ x hx
    · exact flatZ_range _ x hx
theorem prefixesZ_u8 (l : List ByteArray) : ∀ x ∈ (prefixesZ l).1, 0 ≤ x ∧ x ≤ 255 := by
  unfold prefixesZ
  split
  · intro x hx; cases hx
  · intro x hx
    rcases List.mem_append.1 hx with hx | hx
    · exact D13.listB_range _ x hx
    · exact lengthsZ_u8 _ x hx
theorem lengthsZ_len {l : List ByteArray} (h : longZ l = false) : (lengthsZ l).1.length ≤ 2000000 := by
  obtain ⟨ht, hl⟩ := longZ_no h
  rw [lengthsZ_fine h, List.length_append, flatZ_length]
  have := D13.listB_short (lensZ_inI (l := l) (by omega)) (by rw [lensZ_length]; exact hl)
  omega
theorem prefixesZ_len {l : List ByteArray} (h : longZ l = false) : (prefixesZ l).1.length ≤ 3000000 := by
  obtain ⟨ht, hl⟩ := longZ_no h
  rw [prefixesZ_fine h, List.length_append]
  have := D13.listB_short (firsts_in h) (by rw [firsts_len]; exact hl)
  have := lengthsZ_len (rests_short h)
  omega
theorem same_s (l : List ByteArray) (hl : l.length ≤ 1000000000) : ∀ (d k i : Nat), i + d = l.length → d < k → marquetrylaw14_same.l0 k l l (i : Int) = some true
  | 0, k, i, h, hk => by
    obtain ⟨k, rfl⟩ : ∃ j, k = j + 1 := ⟨k - 1, by omega⟩
    rw [marquetrylaw14_same.l0, if_neg (by omega)]
  | d + 1, k, i, h, hk => by
    obtain ⟨k, rfl⟩ : ∃ j, k = j + 1 := ⟨k - 1, by omega⟩
    rw [marquetrylaw14_same.l0, if_pos (by omega), if_pos (by omega), if_pos (by omega), if_pos rfl, show wrap64 ((i : Int) + 1) = ((i + 1 : Nat) : Int) by rw [Bx.w64 (by omega) (by omega)]; omega]
    exact same_s l hl d k (i + 1) (by omega) (by omega)
theorem sameS {k : Nat} {l : List ByteArray} (hl : l.length ≤ 1000000000) (hk : l.length < k) : marquetrylaw14_same.f k l l = some true := by
  unfold marquetrylaw14_same.f
  rw [if_pos rfl]
  exact same_s l hl l.length k 0 (by omega) hk
theorem fLengths {l : List ByteArray} (h : longZ l = false) : strings_Lengths.f l = some (lengthsZ l) := by
  unfold strings_Lengths.f
  rw [if_pos (by have := (longZ_no h).2; omega)]
theorem fPrefixes {l : List ByteArray} (h : longZ l = false) : strings_Prefixes.f l = some (prefixesZ l) := by
  unfold strings_Prefixes.f
  rw [if_pos (by have := (longZ_no h).2; omega)]
theorem fReadLengths {b : List Int} (hu : ∀ x ∈ b, 0 ≤ x ∧ x ≤ 255) (hl : b.length ≤ 100000000) (count : Int) : strings_ReadLengths.f b count = some (readT count (textsT count b)) := by
  unfold strings_ReadLengths.f
  rw [if_pos ⟨u8All_iff.2 hu, by omega⟩]
theorem fReadPrefixes {b : List Int} (hu : ∀ x ∈ b, 0 ≤ x ∧ x ≤ 255) (hl : b.length ≤ 100000000) (count : Int) : strings_ReadPrefixes.f b count = some (readT count (prefT count b b)) := by
  unfold strings_ReadPrefixes.f
  rw [if_pos ⟨u8All_iff.2 hu, by omega⟩]
theorem readT_ok {count : Int} (h0 : 0 ≤ count) (h1 : count ≤ 65536) {l : List ByteArray} : readT count (.ok (l, [])) = (l, 0) := by
  unfold readT
  rw [if_neg (by omega)]
  rfl
theorem readT_more {count : Int} (h0 : 0 ≤ count) (h1 : count ≤ 65536) {l : List ByteArray} {x : Int} {r : List Int} : readT count (.ok (l, x :: r)) = ([], 7) := by
  unfold readT
  rw [if_neg (by omega)]
  exact if_neg (by simp)
theorem readT_err {count : Int} (h0 : 0 ≤ count) (h1 : count ≤ 65536) (x : Int) : readT count (.error x) = ([], x) := by
  unfold readT
  rw [if_neg (by omega)]
def S1 : List ByteArray := [⟨#[97, 98]⟩, ⟨#[99]⟩]
def S2 : List ByteArray := [⟨#[97, 98]⟩, ⟨#[97, 98, 99]⟩]
theorem S1_long : longZ S1 = false := by decide
theorem S2_long : longZ S2 = false := by decide
theorem list_21 : D13.listB [2, 1] = [128, 1, 4, 2, 4, 1, 0, 0, 0, 0] := by
  have e1 : allD [2, 1] = [[-1]] := by kernel_rfl
  have e2 : D13.blkB [-1] = D13.vb 1 ++ [0, 0, 0, 0] := by kernel_rfl
  unfold D13.listB
  rw [e1, List.flatMap_cons, e2, show D13.vb [(2 : Int), 1].length = [2] from D13.vb_small (by decide), show D13.vb (D13.zz (rd [2, 1] 0)).toNat = [4] from D13.vb_small (by decide), show D13.vb 1 = [1] from D13.vb_small (by decide)]
  rfl
theorem list_02 : (D13.listB [0, 2]).length = 10 := by
  have e1 : allD [0, 2] = [[2]] := by kernel_rfl
  have e2 : D13.blkB [2] = D13.vb 4 ++ [0, 0, 0, 0] := by kernel_rfl
  unfold D13.listB
  rw [e1, List.flatMap_cons, e2, show D13.vb [(0 : Int), 2].length = [2] from D13.vb_small (by decide), show D13.vb (D13.zz (rd [0, 2] 0)).toNat = [0] from D13.vb_small (by decide), show D13.vb 4 = [4] from D13.vb_small (by decide)]
  rfl
theorem S1_bytes : lengthsZ S1 = ([128, 1, 4, 2, 4, 1, 0, 0, 0, 0, 97, 98, 99], 0) := by
  rw [lengthsZ_fine S1_long, show lensZ S1 = [2, 1] from rfl, show flatZ S1 = [97, 98, 99] from rfl, list_21]
  rfl
theorem S2_rests : restsZ (pairsZ S2) = S1 := by
  show [(⟨#[97, 98]⟩ : ByteArray).extract 0 2, (⟨#[97, 98, 99]⟩ : ByteArray).extract 2 3] = S1
  rw [show (⟨#[97, 98]⟩ : ByteArray).extract 0 2 = ⟨#[97, 98]⟩ from ba_eq (by rw [ex_front]; rfl), show (⟨#[97, 98, 99]⟩ : ByteArray).extract 2 3 = ⟨#[99]⟩ from ba_eq ((ex_back ⟨#[97, 98, 99]⟩ 2).trans rfl)]
  rfl
theorem S2_bytes : (prefixesZ S2).1.length = 23 ∧ (prefixesZ S2).2 = 0 := by
  rw [prefixesZ_fine S2_long, S2_rests, show firstsZ (pairsZ S2) = [0, 2] from rfl, S1_bytes, List.length_append, list_02]
  exact ⟨rfl, rfl⟩
theorem works14 {k : Nat} (hk : 4 ≤ k) : marquetrylaw14_works.f k = some true := by
  have h1 := fLengths S1_long
  have h2 := fPrefixes S2_long
  have h3 := fReadLengths (lengthsZ_u8 S1) (by have := lengthsZ_len S1_long; omega) 2
  have h4 := fReadPrefixes (prefixesZ_u8 S2) (by have := prefixesZ_len S2_long; omega) 2
  have t1 := textsT_back S1_long []
  have t2 := prefT_back S2_long []
  rw [List.append_nil] at t1 t2
  rw [show ((S1.length : Nat) : Int) = 2 from rfl] at t1
  rw [show ((S2.length : Nat) : Int) = 2 from rfl] at t2
  rw [t1, readT_ok (by omega) (by omega)] at h3
  rw [t2, readT_ok (by omega) (by omega)] at h4
  have s1 := sameS (k := k) (l := S1) (by decide) (by show 2 < k; omega)
  have s2 := sameS (k := k) (l := S2) (by decide) (by show 2 < k; omega)
  have h5 := S2_bytes
  unfold marquetrylaw14_works.f marquetrylaw14_num.f
  change ((strings_Lengths.f S1).bind fun bt129 => _) = _
  rw [h1, Option.bind_some]
  change ((strings_Prefixes.f S2).bind fun bt136 => _) = _
  rw [h2, Option.bind_some, h3, Option.bind_some, h4, Option.bind_some]
  simp only []
  rw [S1_bytes, h5.2, h5.1]
  rw [if_pos (by rw [ByteArray.toList_eq]; rfl)]
  simp only [Option.bind_some]
  rw [if_pos (by kernel_rfl)]
  change ((marquetrylaw14_same.f k S1 S1).bind fun t155 => _) = _
  rw [s1, Option.bind_some, if_pos rfl]
  change ((marquetrylaw14_same.f k S2 S2).bind fun t159 => _) = _
  rw [s2, Option.bind_some, if_pos rfl]
  rfl
end Go.Proofs.Ytcdephhplmcmjaa.X
end

section
namespace Go.Proofs.Ytcdephhplmcmjaa.X
open Go.RowKit Go.Proofs.YtcdephhplmcmjaaW.PrintWords Go.Proofs.YtcdephhplmcmjaaW.PrintLast Go.Proofs.YtcdephhplmcmjaaW.PrintMore
set_option linter.unusedVariables false
set_option linter.unusedSimpArgs false
def ErrS {α : Type} (res : Except Int (α × List Int)) : Prop := ∀ x, res = .error x → x = 6 ∨ x = 8
theorem ErrS.ok {α : Type} (v : α) (b : List Int) : ErrS (.ok (v, b)) := fun _ h => by cases h
theorem ErrS.e8 {α : Type} : ErrS (.error 8 : Except Int (α × List Int)) := fun _ h => by cases h; exact .inr rfl
theorem ErrS.and {α β : Type} {r : Except Int (α × List Int)} {k : α → List Int → Except Int (β × List Int)} (h : ErrS r) (hk : ∀ v b, ErrS (k v b)) : ErrS (andS r k) := by
  intro x hx
  cases r with
  | error y => rw [andS_err] at hx; cases hx; exact h _ rfl
  | ok p => exact hk p.1 p.2 x hx
theorem ErrS.map {α β : Type} {f : α → β} {r : Except Int (α × List Int)} (h : ErrS r) : ErrS (mapS f r) := by
  intro x hx
  cases r with
  | error y => simp [mapS] at hx; subst hx; exact h _ rfl
  | ok p => simp [mapS] at hx
theorem byteS_err (b : List Int) : ErrS (byteS b) := by
  intro x h
  cases b with
  | nil => simp [byteS] at h; exact .inl h.symm
  | cons c b => simp [byteS] at h
theorem numS_err : ∀ (b : List Int) (sh : Nat) (n : Int), ErrS (numS sh n b)
  | [], sh, n => fun x h => by simp [numS] at h; exact .inl h.symm
  | c :: b, sh, n => by
    rw [numS]
    split
    · split
      · exact ErrS.ok _ _
      · exact numS_err b _ _
    · exact ErrS.e8
theorem packedS_err (w : Nat) (b : List Int) : ErrS (packedS w b) := by
  unfold packedS
  split
  · exact ErrS.ok _ _
  · intro x h; cases h; exact .inl rfl
theorem widS_err (n fr : Int) : ∀ (k i : Nat) (b : List Int), ErrS (widS n fr k i b)
  | 0, i, b => ErrS.ok _ _
  | k + 1, i, b => by
    rw [widS]
    refine ErrS.and (byteS_err b) fun v r => ?_
    split
    · exact ErrS.and (widS_err n fr k _ r) fun v r => ErrS.ok _ _
    · exact ErrS.e8
theorem partsS_err (n fr least : Int) : ∀ (ws : List Int) (i : Nat) (l b : List Int), ErrS (partsS n fr least ws i l b)
  | [], i, l, b => ErrS.ok _ _
  | w :: ws, i, l, b => by
    rw [partsS]
    split
    · exact ErrS.ok _ _
    · exact ErrS.and (packedS_err _ b) fun v r => partsS_err n fr least ws _ _ r
theorem loopS_err (n : Int) : ∀ (k : Nat) (fr : Int) (l b : List Int), ErrS (loopS n k fr l b)
  | 0, fr, l, b => ErrS.ok _ _
  | k + 1, fr, l, b => by
    rw [loopS]
    split
    · exact ErrS.and (ErrS.map (numS_err b _ _)) fun v r => ErrS.and (widS_err n fr 4 0 r) fun v2 r2 => ErrS.and (partsS_err _ _ _ _ _ _ r2) fun v3 r3 => loopS_err n k _ _ r3
    · exact ErrS.ok _ _
theorem listS_err (b : List Int) : ErrS (listS b) := by
  unfold listS wantS
  refine ErrS.and (numS_err b _ _) fun v r => ?_
  split
  · refine ErrS.and (numS_err r _ _) fun v2 r2 => ?_
    split
    · unfold tailS
      refine ErrS.and (numS_err r2 _ _) fun v3 r3 => ?_
      split
      · refine ErrS.and (ErrS.map (numS_err r3 _ _)) fun v4 r4 => ?_
        split
        · split
          · exact ErrS.ok _ _
          · exact loopS_err _ _ _ _ r4
        · exact ErrS.e8
      · exact ErrS.e8
    · exact ErrS.e8
  · exact ErrS.e8
end Go.Proofs.Ytcdephhplmcmjaa.X
end

section
namespace Go.Proofs.Ytcdephhplmcmjaa.X
open Go.RowKit Go.Proofs.YtcdephhplmcmjaaW.PrintWords Go.Proofs.YtcdephhplmcmjaaW.PrintLast Go.Proofs.YtcdephhplmcmjaaW.PrintMore
set_option linter.unusedVariables false
set_option linter.unusedSimpArgs false
theorem numsT_inv {count : Int} {b L r : List Int} (hu : ∀ x ∈ b, 0 ≤ x ∧ x ≤ 255) (h : numsT count b = .ok (L, r)) : b = D13.listB L ++ r ∧ (L.length : Int) = count ∧ L.length ≤ 65536 ∧ ∀ x ∈ L, D13.inI x := by
  have h65 := (numsT_len h).2.1
  unfold numsT at h
  by_cases h0 : (D13.beginR b).2.2 = 0
  · rw [if_pos h0] at h
    by_cases h1 : ((D13.beginR b).1.length : Int) = count
    · rw [if_pos h1] at h
      obtain ⟨e1, e2⟩ := Prod.mk.inj (Except.ok.inj h)
      subst e1
      refine ⟨?_, h1, h65, ?_⟩
      · rw [← e2]
        unfold D13.beginR at h0 ⊢
        cases hr : listS b with
        | error x => rw [hr] at h0; have hx := listS_err b x hr; simp only [] at h0; omega
        | ok p =>
          obtain ⟨l, q⟩ := p
          rw [hr] at h0
          simp only [] at h0 ⊢
          by_cases he : (strOfNums (D13.listB l)).toList = (strOfNums (b.take (b.length - q.length))).toList
          · rw [if_pos he]
            have e := (str_eq (D13.listB_range l) (fun x hx => hu x (List.mem_of_mem_take hx))).1 he
            simp only []
            rw [e]
            exact (List.take_append_drop _ _).symm
          · rw [if_neg he] at h0; exact absurd h0 (by decide)
      · unfold D13.beginR
        cases hr : listS b with
        | error x => simp
        | ok p =>
          obtain ⟨l, q⟩ := p
          simp only []
          by_cases he : (strOfNums (D13.listB l)).toList = (strOfNums (b.take (b.length - q.length))).toList
          · rw [if_pos he]
            exact D13.listS_in hr
          · rw [if_neg he]; simp
    · rw [if_neg h1] at h; cases h
  · rw [if_neg h0] at h; cases h
theorem cutT_inv : ∀ (L r : List Int), (∀ n ∈ L, 0 ≤ n) → sumI L ≤ r.length → (∀ x ∈ r, 0 ≤ x ∧ x ≤ 255) → lensZ (cutT L r).1 = L ∧ flatZ (cutT L r).1 ++ (cutT L r).2 = r ∧ (totZ (cutT L r).1 : Int) = sumI L
  | [], r, _, _, _ => by rw [cutT]; exact ⟨rfl, rfl, rfl⟩
  | n :: L, r, h, hs, hu => by
    have h0 := h n List.mem_cons_self
    have hL := fun x hx => h x (List.mem_cons_of_mem n hx)
    have hnn := sumI_nn L hL
    rw [sumI] at hs ⊢
    have hlen : (r.take n.toNat).length = n.toNat := by rw [List.length_take]; omega
    obtain ⟨i1, i2, i3⟩ := cutT_inv L (r.drop n.toNat) hL (by rw [List.length_drop]; omega) (fun x hx => hu x (List.mem_of_mem_drop hx))
    have hsz : (strOfNums (r.take n.toNat)).size = n.toNat := by
      have := bytesOf_length (strOfNums (r.take n.toNat))
      rw [bytes_str (fun x hx => hu x (List.mem_of_mem_take hx)), hlen] at this
      omega
    rw [cutT]
    refine ⟨?_, ?_, ?_⟩
    · show ((strOfNums (r.take n.toNat)).size : Int) :: lensZ (cutT L (r.drop n.toNat)).1 = _
      rw [i1, hsz]
      congr 1
      omega
    · show bytesOf (strOfNums (r.take n.toNat)) ++ flatZ (cutT L (r.drop n.toNat)).1 ++ (cutT L (r.drop n.toNat)).2 = _
      rw [bytes_str (fun x hx => hu x (List.mem_of_mem_take hx)), List.append_assoc, i2]
      exact List.take_append_drop _ _
    · rw [totZ, hsz]
      omega
theorem again_l {count : Int} {b : List Int} {l : List ByteArray} (hu : ∀ x ∈ b, 0 ≤ x ∧ x ≤ 255) (h : textsT count b = .ok (l, [])) : lengthsZ l = (b, 0) ∧ (l.length : Int) = count ∧ longZ l = false := by
  have hlen := (textsT_len h).1
  unfold textsT at h
  cases hn : numsT count b with
  | error x => rw [hn] at h; cases h
  | ok p =>
    obtain ⟨L, r⟩ := p
    rw [hn] at h
    simp only [] at h
    obtain ⟨e1, e2, e3, e4⟩ := numsT_inv hu hn
    cases hs : sumT L 0 with
    | error x => rw [hs] at h; cases h
    | ok s =>
      rw [hs] at h
      simp only [] at h
      obtain ⟨s1, s2, s3⟩ := sumT_ok L 0 s hs (by decide) (by decide)
      by_cases hc : s ≤ (r.length : Int)
      · rw [if_pos hc] at h
        have h := Except.ok.inj h
        have hru : ∀ x ∈ r, 0 ≤ x ∧ x ≤ 255 := fun x hx => hu x (by rw [e1]; exact List.mem_append_right _ hx)
        obtain ⟨c1, c2, c3⟩ := cutT_inv L r s1 (by omega) hru
        rw [h] at c1 c2 c3
        simp only [List.append_nil] at c1 c2 c3
        have hlo : longZ l = false := by
          unfold longZ
          refine decide_eq_false ?_
          omega
        refine ⟨?_, hlen, hlo⟩
        rw [lengthsZ_fine hlo, c1, c2, ← e1]
      · rw [if_neg hc] at h; cases h
theorem preT_len : ∀ (k : List Int) (rest : List ByteArray) (last : ByteArray) (sum : Int) (out : List ByteArray), preT k rest last sum = .ok out → k.length = rest.length → out.length = k.length
  | [], rest, last, sum, out, h, _ => by
    rw [preT_nil] at h
    cases h
    rfl
  | n :: k, [], last, sum, out, h, hl => by cases hl
  | n :: k, s :: rest, last, sum, out, h, hl => by
    rw [preT] at h
    by_cases c1 : 0 ≤ n ∧ n ≤ (last.size : Int)
    · rw [if_pos c1] at h
      by_cases c2 : sum + (n + (s.size : Int)) ≤ 1048576
      · rw [if_pos c2] at h
        cases hp : preT k rest (last.extract 0 n.toNat ++ s) (sum + (n + (s.size : Int))) with
        | error x => rw [hp] at h; cases h
        | ok o =>
          rw [hp] at h
          cases h
          have := preT_len k rest _ _ o hp (by simpa using hl)
          simp [this]
      · rw [if_neg c2] at h; cases h
    · rw [if_neg c1] at h; cases h
theorem again_p {count : Int} {b : List Int} {l : List ByteArray} (hu : ∀ x ∈ b, 0 ≤ x ∧ x ≤ 255) (h : prefT count b b = .ok (l, [])) : prefixesZ l = (b, 0) ∧ (l.length : Int) = count ∧ longZ l = false := by
  unfold prefT at h
  cases hn : numsT count b with
  | error x => rw [hn] at h; cases h
  | ok p =>
    obtain ⟨L, r⟩ := p
    rw [hn] at h
    simp only [] at h
    obtain ⟨e1, e2, e3, e4⟩ := numsT_inv hu hn
    cases ht : textsT count r with
    | error x => rw [ht] at h; cases h
    | ok q =>
      obtain ⟨rest, r2⟩ := q
      rw [ht] at h
      simp only [] at h
      have hrl := (textsT_len ht).1
      cases hp : preT L rest ⟨#[]⟩ 0 with
      | error x => rw [hp] at h; cases h
      | ok out =>
        rw [hp] at h
        simp only [] at h
        by_cases he : (strOfNums (prefixesZ out).1).toList = (strOfNums (b.take (b.length - r2.length))).toList
        · rw [if_pos he] at h
          obtain ⟨o1, o2⟩ := Prod.mk.inj (Except.ok.inj h)
          subst o1
          subst o2
          have e := (str_eq (prefixesZ_u8 out) (fun x hx => hu x (List.mem_of_mem_take hx))).1 he
          rw [List.length_nil, Nat.sub_zero, List.take_length] at e
          have hl := preT_len L rest _ _ out hp (by omega)
          obtain ⟨t1, _⟩ := preT_ok L rest _ _ out hp (by decide) (by decide)
          have hlo : longZ out = false := by
            unfold longZ
            refine decide_eq_false ?_
            omega
          refine ⟨?_, by omega, hlo⟩
          have e0 : (prefixesZ out).2 = 0 := by unfold prefixesZ; rw [if_neg (by rw [hlo]; decide)]
          rw [← e, ← e0]
        · rw [if_neg he] at h; cases h
end Go.Proofs.Ytcdephhplmcmjaa.X
end

section
namespace Go.Proofs.Ytcdephhplmcmjaa.X
open Go.RowKit Go.Proofs.YtcdephhplmcmjaaW.PrintWords Go.Proofs.YtcdephhplmcmjaaW.PrintLast Go.Proofs.YtcdephhplmcmjaaW.PrintMore
set_option linter.unusedVariables false
set_option linter.unusedSimpArgs false
theorem works14_true (w : World) : Calls Try.prog 11 #[] w fun e w' => e = .returned (.bool true) ∧ Below w.heap.size w w' := marquetrylaw14_works.calls 4000 true w (works14 (by decide))
theorem num14_same (x : Int) (w : World) : Calls Try.prog 16 #[.int .i64 x] w fun e w' => e = .returned (.int .i64 x) ∧ Drawn0 w w' := marquetrylaw14_num.calls x x w rfl
set_option maxRecDepth 100000 in
set_option maxHeartbeats 4000000 in
theorem ag_yy (A : Option Addr) (c : Nat) (b : List Int) (count : Int) (w : World) (hC : Kd.C (Kd.int .u8) w A b.length b) (hc : b.length ≤ c) (hl : b.length ≤ 3000) (l : List ByteArray) (h1 : strings_ReadLengths.f b count = some (l, 0)) (h1w : strings_Lengths.f l = some (b, 0)) (h1c : (l.length : Int) = count) (m : List ByteArray) (h2 : strings_ReadPrefixes.f b count = some (m, 0)) (h2w : strings_Prefixes.f m = some (b, 0)) (h2c : (m.length : Int) = count) :
    Calls Try.prog 9 #[.slice A b.length c, .int .i64 count] w fun e w' => e = .returned (.bool true) ∧ Below w.heap.size w w' := by
  have HC := Aside0.mk hC
  have H1 := Aside0.mk (fun (W : World) (h : Kd.C (Kd.int .u8) W A b.length b) => strings_ReadLengths.calls A c b count _ _ W h hc h1)
  have H2 := Aside0.mk (fun (W : World) (h : Kd.C (Kd.int .u8) W A b.length b) => strings_ReadPrefixes.calls A c b count _ _ W h hc h2)
  have HW1 := Aside0.mk (fun (W : World) (Al : Option Addr) (cl : Nat) (h : Kd.C Kd.string W Al l.length l) (hcl : l.length ≤ cl) => strings_Lengths.calls Al cl l _ _ W h hcl h1w)
  have ql : ((l.length : Int) != count) = false := by rw [h1c]; exact bne_self_eq_false ..
  have HW2 := Aside0.mk (fun (W : World) (Al : Option Addr) (cl : Nat) (h : Kd.C Kd.string W Al m.length m) (hcl : m.length ≤ cl) => strings_Prefixes.calls Al cl m _ _ W h hcl h2w)
  have qm : ((m.length : Int) != count) = false := by rw [h2c]; exact bne_self_eq_false ..
  have h1b : decide ((b.length : Int) > 3000) = false := decide_eq_false (by omega)
  clear hC hl h1 h2 h1w h1c h2w h2c
  go_enter Try.func9, Try.ntmps9
  go_wp2_with fail
  refine (H1.out _ HC.out).mono ?_
  rintro e W1 ⟨v1, rfl, hR1, hb1⟩
  obtain ⟨A1, c1, rfl, hc1, hC1⟩ := Kd.R_reads hR1
  have HB1 := Aside0.mk hb1
  have HL1 := Aside0.mk hC1
  clear hR1 hb1 hC1
  go_wp2_with fail
  refine (H2.out _ (Kd.C_below HC.out HB1.out)).mono ?_
  rintro e W2 ⟨v2, rfl, hR2, hb2⟩
  obtain ⟨A2, c2, rfl, hc2, hC2⟩ := Kd.R_reads hR2
  have HB2 := Aside0.mk (below_then HB1.out HB1.out.size hb2)
  have HL2 := Aside0.mk (Kd.C_below HL1.out hb2)
  have HM2 := Aside0.mk hC2
  clear hR2 hb2 hC2 HL1 HB1
  go_wp2_with fail
  refine (num14_same _ _).mono ?_
  rintro e W3 ⟨rfl, ⟨nd, hnd⟩⟩
  have HB3 := Aside0.mk (show Below w.heap.size w W3 from (by rw [hnd]; exact pw_below_drewN HB2.out _))
  have HL3 := Aside0.mk (show Kd.C Kd.string W3 A1 l.length l from (by rw [hnd]; exact Kd.C_drewN HL2.out _))
  have HM3 := Aside0.mk (show Kd.C Kd.string W3 A2 m.length m from (by rw [hnd]; exact Kd.C_drewN HM2.out _))
  clear hnd HB2 HL2 HM2
  go_wp2_with fail
  refine (HW1.out _ _ _ HL3.out hc1).mono ?_
  rintro e W4 ⟨v4, rfl, hR4, hb4⟩
  obtain ⟨A4, c4, rfl, hc4, hC4⟩ := Kd.R_reads hR4
  have HB4 := Aside0.mk (below_then HB3.out HB3.out.size hb4)
  have HL4 := Aside0.mk (Kd.C_below HL3.out hb4)
  have HM4 := Aside0.mk (Kd.C_below HM3.out hb4)
  have HZ4 := Aside0.mk hC4
  clear hR4 hb4 hC4 HL3 HM3 HB3
  go_wp2_with fail
  refine (num14_same _ _).mono ?_
  rintro e W5 ⟨rfl, ⟨nd, hnd⟩⟩
  have HB5 := Aside0.mk (show Below w.heap.size w W5 from (by rw [hnd]; exact pw_below_drewN HB4.out _))
  have HL5 := Aside0.mk (show Kd.C Kd.string W5 A1 l.length l from (by rw [hnd]; exact Kd.C_drewN HL4.out _))
  have HM5 := Aside0.mk (show Kd.C Kd.string W5 A2 m.length m from (by rw [hnd]; exact Kd.C_drewN HM4.out _))
  have cv1 : (convert 25 9 (.slice A4 b.length c4)).run Try.prog W5 = .ok (.string (strOfNums b)) W5 := Kd.C_string Try.underlying25 Try.underlying5 Try.underlying9 (by rw [hnd]; exact Kd.C_drewN HZ4.out _)
  have cv2 : (convert 25 9 (.slice A b.length c)).run Try.prog W5 = .ok (.string (strOfNums b)) W5 := Kd.C_string Try.underlying25 Try.underlying5 Try.underlying9 (Kd.C_below HC.out HB5.out)
  clear hnd HB4 HL4 HM4 HZ4
  go_wp2_with fail
  refine (num14_same _ _).mono ?_
  rintro e W6 ⟨rfl, ⟨nd, hnd⟩⟩
  have HB6 := Aside0.mk (show Below w.heap.size w W6 from (by rw [hnd]; exact pw_below_drewN HB5.out _))
  have HL6 := Aside0.mk (show Kd.C Kd.string W6 A1 l.length l from (by rw [hnd]; exact Kd.C_drewN HL5.out _))
  have HM6 := Aside0.mk (show Kd.C Kd.string W6 A2 m.length m from (by rw [hnd]; exact Kd.C_drewN HM5.out _))
  clear hnd HB5 HL5 HM5 cv1 cv2
  go_wp2_with fail
  refine (HW2.out _ _ _ HM6.out hc2).mono ?_
  rintro e W7 ⟨v7, rfl, hR7, hb7⟩
  obtain ⟨A7, c7, rfl, hc7, hC7⟩ := Kd.R_reads hR7
  have HB7 := Aside0.mk (below_then HB6.out HB6.out.size hb7)
  have HL7 := Aside0.mk (Kd.C_below HL6.out hb7)
  have HM7 := Aside0.mk (Kd.C_below HM6.out hb7)
  have HZ7 := Aside0.mk hC7
  clear hR7 hb7 hC7 HL6 HM6 HB6
  go_wp2_with fail
  refine (num14_same _ _).mono ?_
  rintro e W8 ⟨rfl, ⟨nd, hnd⟩⟩
  have HB8 := Aside0.mk (show Below w.heap.size w W8 from (by rw [hnd]; exact pw_below_drewN HB7.out _))
  have HL8 := Aside0.mk (show Kd.C Kd.string W8 A1 l.length l from (by rw [hnd]; exact Kd.C_drewN HL7.out _))
  have HM8 := Aside0.mk (show Kd.C Kd.string W8 A2 m.length m from (by rw [hnd]; exact Kd.C_drewN HM7.out _))
  have cv1 : (convert 25 9 (.slice A7 b.length c7)).run Try.prog W8 = .ok (.string (strOfNums b)) W8 := Kd.C_string Try.underlying25 Try.underlying5 Try.underlying9 (by rw [hnd]; exact Kd.C_drewN HZ7.out _)
  have cv2 : (convert 25 9 (.slice A b.length c)).run Try.prog W8 = .ok (.string (strOfNums b)) W8 := Kd.C_string Try.underlying25 Try.underlying5 Try.underlying9 (Kd.C_below HC.out HB8.out)
  clear hnd HB7 HL7 HM7 HZ7
  go_wp2_with fail
  refine (num14_same _ _).mono ?_
  rintro e W9 ⟨rfl, ⟨nd, hnd⟩⟩
  have HB9 := Aside0.mk (show Below w.heap.size w W9 from (by rw [hnd]; exact pw_below_drewN HB8.out _))
  have HL9 := Aside0.mk (show Kd.C Kd.string W9 A1 l.length l from (by rw [hnd]; exact Kd.C_drewN HL8.out _))
  have HM9 := Aside0.mk (show Kd.C Kd.string W9 A2 m.length m from (by rw [hnd]; exact Kd.C_drewN HM8.out _))
  clear hnd HB8 HL8 HM8 cv1 cv2
  go_wp2_with fail
  refine (num14_same _ _).mono ?_
  rintro e W10 ⟨rfl, ⟨nd, hnd⟩⟩
  have HB10 := Aside0.mk (show Below w.heap.size w W10 from (by rw [hnd]; exact pw_below_drewN HB9.out _))
  have HL10 := Aside0.mk (show Kd.C Kd.string W10 A1 l.length l from (by rw [hnd]; exact Kd.C_drewN HL9.out _))
  have HM10 := Aside0.mk (show Kd.C Kd.string W10 A2 m.length m from (by rw [hnd]; exact Kd.C_drewN HM9.out _))
  clear hnd HB9 HL9 HM9
  go_wp2_with fail
  refine (works14_true _).mono ?_
  rintro e Wz ⟨rfl, hbz⟩
  have HBz := Aside0.mk (below_then HB10.out HB10.out.size hbz)
  clear hbz
  go_wp2
  go_ret
  exact ⟨rfl, HBz.out⟩
set_option maxRecDepth 100000 in
set_option maxHeartbeats 4000000 in
theorem ag_yn (A : Option Addr) (c : Nat) (b : List Int) (count : Int) (w : World) (hC : Kd.C (Kd.int .u8) w A b.length b) (hc : b.length ≤ c) (hl : b.length ≤ 3000) (l : List ByteArray) (h1 : strings_ReadLengths.f b count = some (l, 0)) (h1w : strings_Lengths.f l = some (b, 0)) (h1c : (l.length : Int) = count) (y : Int) (h2 : strings_ReadPrefixes.f b count = some ([], y)) (hy : y ≠ 0) :
    Calls Try.prog 9 #[.slice A b.length c, .int .i64 count] w fun e w' => e = .returned (.bool true) ∧ Below w.heap.size w w' := by
  have HC := Aside0.mk hC
  have H1 := Aside0.mk (fun (W : World) (h : Kd.C (Kd.int .u8) W A b.length b) => strings_ReadLengths.calls A c b count _ _ W h hc h1)
  have H2 := Aside0.mk (fun (W : World) (h : Kd.C (Kd.int .u8) W A b.length b) => strings_ReadPrefixes.calls A c b count _ _ W h hc h2)
  have HW1 := Aside0.mk (fun (W : World) (Al : Option Addr) (cl : Nat) (h : Kd.C Kd.string W Al l.length l) (hcl : l.length ≤ cl) => strings_Lengths.calls Al cl l _ _ W h hcl h1w)
  have ql : ((l.length : Int) != count) = false := by rw [h1c]; exact bne_self_eq_false ..
  have qy : (y == 0) = false := by simp [hy]
  have h1b : decide ((b.length : Int) > 3000) = false := decide_eq_false (by omega)
  clear hC hl h1 h2 h1w h1c hy
  go_enter Try.func9, Try.ntmps9
  go_wp2_with fail
  refine (H1.out _ HC.out).mono ?_
  rintro e W1 ⟨v1, rfl, hR1, hb1⟩
  obtain ⟨A1, c1, rfl, hc1, hC1⟩ := Kd.R_reads hR1
  have HB1 := Aside0.mk hb1
  have HL1 := Aside0.mk hC1
  clear hR1 hb1 hC1
  go_wp2_with fail
  refine (H2.out _ (Kd.C_below HC.out HB1.out)).mono ?_
  rintro e W2 ⟨v2, rfl, hR2, hb2⟩
  obtain ⟨A2, c2, rfl, hc2, hC2⟩ := Kd.R_reads hR2
  have HB2 := Aside0.mk (below_then HB1.out HB1.out.size hb2)
  have HL2 := Aside0.mk (Kd.C_below HL1.out hb2)
  have HM2 := Aside0.mk hC2
  clear hR2 hb2 hC2 HL1 HB1
  rw [show ([] : List ByteArray).length = 0 from rfl]
  go_wp2_with fail
  refine (num14_same _ _).mono ?_
  rintro e W3 ⟨rfl, ⟨nd, hnd⟩⟩
  have HB3 := Aside0.mk (show Below w.heap.size w W3 from (by rw [hnd]; exact pw_below_drewN HB2.out _))
  have HL3 := Aside0.mk (show Kd.C Kd.string W3 A1 l.length l from (by rw [hnd]; exact Kd.C_drewN HL2.out _))
  have HM3 := Aside0.mk (show Kd.C Kd.string W3 A2 ([] : List ByteArray).length ([] : List ByteArray) from (by rw [hnd]; exact Kd.C_drewN HM2.out _))
  clear hnd HB2 HL2 HM2
  go_wp2_with fail
  refine (HW1.out _ _ _ HL3.out hc1).mono ?_
  rintro e W4 ⟨v4, rfl, hR4, hb4⟩
  obtain ⟨A4, c4, rfl, hc4, hC4⟩ := Kd.R_reads hR4
  have HB4 := Aside0.mk (below_then HB3.out HB3.out.size hb4)
  have HL4 := Aside0.mk (Kd.C_below HL3.out hb4)
  have HM4 := Aside0.mk (Kd.C_below HM3.out hb4)
  have HZ4 := Aside0.mk hC4
  clear hR4 hb4 hC4 HL3 HM3 HB3
  go_wp2_with fail
  refine (num14_same _ _).mono ?_
  rintro e W5 ⟨rfl, ⟨nd, hnd⟩⟩
  have HB5 := Aside0.mk (show Below w.heap.size w W5 from (by rw [hnd]; exact pw_below_drewN HB4.out _))
  have HL5 := Aside0.mk (show Kd.C Kd.string W5 A1 l.length l from (by rw [hnd]; exact Kd.C_drewN HL4.out _))
  have HM5 := Aside0.mk (show Kd.C Kd.string W5 A2 ([] : List ByteArray).length ([] : List ByteArray) from (by rw [hnd]; exact Kd.C_drewN HM4.out _))
  have cv1 : (convert 25 9 (.slice A4 b.length c4)).run Try.prog W5 = .ok (.string (strOfNums b)) W5 := Kd.C_string Try.underlying25 Try.underlying5 Try.underlying9 (by rw [hnd]; exact Kd.C_drewN HZ4.out _)
  have cv2 : (convert 25 9 (.slice A b.length c)).run Try.prog W5 = .ok (.string (strOfNums b)) W5 := Kd.C_string Try.underlying25 Try.underlying5 Try.underlying9 (Kd.C_below HC.out HB5.out)
  clear hnd HB4 HL4 HM4 HZ4
  go_wp2_with fail
  refine (num14_same _ _).mono ?_
  rintro e W6 ⟨rfl, ⟨nd, hnd⟩⟩
  have HB6 := Aside0.mk (show Below w.heap.size w W6 from (by rw [hnd]; exact pw_below_drewN HB5.out _))
  have HL6 := Aside0.mk (show Kd.C Kd.string W6 A1 l.length l from (by rw [hnd]; exact Kd.C_drewN HL5.out _))
  have HM6 := Aside0.mk (show Kd.C Kd.string W6 A2 ([] : List ByteArray).length ([] : List ByteArray) from (by rw [hnd]; exact Kd.C_drewN HM5.out _))
  clear hnd HB5 HL5 HM5 cv1 cv2
  go_wp2_with fail
  refine (num14_same _ _).mono ?_
  rintro e W7 ⟨rfl, ⟨nd, hnd⟩⟩
  have HB7 := Aside0.mk (show Below w.heap.size w W7 from (by rw [hnd]; exact pw_below_drewN HB6.out _))
  have HL7 := Aside0.mk (show Kd.C Kd.string W7 A1 l.length l from (by rw [hnd]; exact Kd.C_drewN HL6.out _))
  have HM7 := Aside0.mk (show Kd.C Kd.string W7 A2 ([] : List ByteArray).length ([] : List ByteArray) from (by rw [hnd]; exact Kd.C_drewN HM6.out _))
  clear hnd HB6 HL6 HM6
  go_wp2_with fail
  refine (num14_same _ _).mono ?_
  rintro e W8 ⟨rfl, ⟨nd, hnd⟩⟩
  have HB8 := Aside0.mk (show Below w.heap.size w W8 from (by rw [hnd]; exact pw_below_drewN HB7.out _))
  have HL8 := Aside0.mk (show Kd.C Kd.string W8 A1 l.length l from (by rw [hnd]; exact Kd.C_drewN HL7.out _))
  have HM8 := Aside0.mk (show Kd.C Kd.string W8 A2 ([] : List ByteArray).length ([] : List ByteArray) from (by rw [hnd]; exact Kd.C_drewN HM7.out _))
  clear hnd HB7 HL7 HM7
  go_wp2_with fail
  refine (works14_true _).mono ?_
  rintro e Wz ⟨rfl, hbz⟩
  have HBz := Aside0.mk (below_then HB8.out HB8.out.size hbz)
  clear hbz
  go_wp2
  go_ret
  exact ⟨rfl, HBz.out⟩
set_option maxRecDepth 100000 in
set_option maxHeartbeats 4000000 in
theorem ag_ny (A : Option Addr) (c : Nat) (b : List Int) (count : Int) (w : World) (hC : Kd.C (Kd.int .u8) w A b.length b) (hc : b.length ≤ c) (hl : b.length ≤ 3000) (x : Int) (h1 : strings_ReadLengths.f b count = some ([], x)) (hx : x ≠ 0) (m : List ByteArray) (h2 : strings_ReadPrefixes.f b count = some (m, 0)) (h2w : strings_Prefixes.f m = some (b, 0)) (h2c : (m.length : Int) = count) :
    Calls Try.prog 9 #[.slice A b.length c, .int .i64 count] w fun e w' => e = .returned (.bool true) ∧ Below w.heap.size w w' := by
  have HC := Aside0.mk hC
  have H1 := Aside0.mk (fun (W : World) (h : Kd.C (Kd.int .u8) W A b.length b) => strings_ReadLengths.calls A c b count _ _ W h hc h1)
  have H2 := Aside0.mk (fun (W : World) (h : Kd.C (Kd.int .u8) W A b.length b) => strings_ReadPrefixes.calls A c b count _ _ W h hc h2)
  have qx : (x == 0) = false := by simp [hx]
  have HW2 := Aside0.mk (fun (W : World) (Al : Option Addr) (cl : Nat) (h : Kd.C Kd.string W Al m.length m) (hcl : m.length ≤ cl) => strings_Prefixes.calls Al cl m _ _ W h hcl h2w)
  have qm : ((m.length : Int) != count) = false := by rw [h2c]; exact bne_self_eq_false ..
  have h1b : decide ((b.length : Int) > 3000) = false := decide_eq_false (by omega)
  clear hC hl h1 h2 hx h2w h2c
  go_enter Try.func9, Try.ntmps9
  go_wp2_with fail
  refine (H1.out _ HC.out).mono ?_
  rintro e W1 ⟨v1, rfl, hR1, hb1⟩
  obtain ⟨A1, c1, rfl, hc1, hC1⟩ := Kd.R_reads hR1
  have HB1 := Aside0.mk hb1
  have HL1 := Aside0.mk hC1
  clear hR1 hb1 hC1
  rw [show ([] : List ByteArray).length = 0 from rfl]
  go_wp2_with fail
  refine (H2.out _ (Kd.C_below HC.out HB1.out)).mono ?_
  rintro e W2 ⟨v2, rfl, hR2, hb2⟩
  obtain ⟨A2, c2, rfl, hc2, hC2⟩ := Kd.R_reads hR2
  have HB2 := Aside0.mk (below_then HB1.out HB1.out.size hb2)
  have HL2 := Aside0.mk (Kd.C_below HL1.out hb2)
  have HM2 := Aside0.mk hC2
  clear hR2 hb2 hC2 HL1 HB1
  go_wp2_with fail
  refine (num14_same _ _).mono ?_
  rintro e W3 ⟨rfl, ⟨nd, hnd⟩⟩
  have HB3 := Aside0.mk (show Below w.heap.size w W3 from (by rw [hnd]; exact pw_below_drewN HB2.out _))
  have HL3 := Aside0.mk (show Kd.C Kd.string W3 A1 ([] : List ByteArray).length ([] : List ByteArray) from (by rw [hnd]; exact Kd.C_drewN HL2.out _))
  have HM3 := Aside0.mk (show Kd.C Kd.string W3 A2 m.length m from (by rw [hnd]; exact Kd.C_drewN HM2.out _))
  clear hnd HB2 HL2 HM2
  go_wp2_with fail
  refine (num14_same _ _).mono ?_
  rintro e W4 ⟨rfl, ⟨nd, hnd⟩⟩
  have HB4 := Aside0.mk (show Below w.heap.size w W4 from (by rw [hnd]; exact pw_below_drewN HB3.out _))
  have HL4 := Aside0.mk (show Kd.C Kd.string W4 A1 ([] : List ByteArray).length ([] : List ByteArray) from (by rw [hnd]; exact Kd.C_drewN HL3.out _))
  have HM4 := Aside0.mk (show Kd.C Kd.string W4 A2 m.length m from (by rw [hnd]; exact Kd.C_drewN HM3.out _))
  clear hnd HB3 HL3 HM3
  go_wp2_with fail
  refine (HW2.out _ _ _ HM4.out hc2).mono ?_
  rintro e W5 ⟨v5, rfl, hR5, hb5⟩
  obtain ⟨A5, c5, rfl, hc5, hC5⟩ := Kd.R_reads hR5
  have HB5 := Aside0.mk (below_then HB4.out HB4.out.size hb5)
  have HL5 := Aside0.mk (Kd.C_below HL4.out hb5)
  have HM5 := Aside0.mk (Kd.C_below HM4.out hb5)
  have HZ5 := Aside0.mk hC5
  clear hR5 hb5 hC5 HL4 HM4 HB4
  go_wp2_with fail
  refine (num14_same _ _).mono ?_
  rintro e W6 ⟨rfl, ⟨nd, hnd⟩⟩
  have HB6 := Aside0.mk (show Below w.heap.size w W6 from (by rw [hnd]; exact pw_below_drewN HB5.out _))
  have HL6 := Aside0.mk (show Kd.C Kd.string W6 A1 ([] : List ByteArray).length ([] : List ByteArray) from (by rw [hnd]; exact Kd.C_drewN HL5.out _))
  have HM6 := Aside0.mk (show Kd.C Kd.string W6 A2 m.length m from (by rw [hnd]; exact Kd.C_drewN HM5.out _))
  have cv1 : (convert 25 9 (.slice A5 b.length c5)).run Try.prog W6 = .ok (.string (strOfNums b)) W6 := Kd.C_string Try.underlying25 Try.underlying5 Try.underlying9 (by rw [hnd]; exact Kd.C_drewN HZ5.out _)
  have cv2 : (convert 25 9 (.slice A b.length c)).run Try.prog W6 = .ok (.string (strOfNums b)) W6 := Kd.C_string Try.underlying25 Try.underlying5 Try.underlying9 (Kd.C_below HC.out HB6.out)
  clear hnd HB5 HL5 HM5 HZ5
  go_wp2_with fail
  refine (num14_same _ _).mono ?_
  rintro e W7 ⟨rfl, ⟨nd, hnd⟩⟩
  have HB7 := Aside0.mk (show Below w.heap.size w W7 from (by rw [hnd]; exact pw_below_drewN HB6.out _))
  have HL7 := Aside0.mk (show Kd.C Kd.string W7 A1 ([] : List ByteArray).length ([] : List ByteArray) from (by rw [hnd]; exact Kd.C_drewN HL6.out _))
  have HM7 := Aside0.mk (show Kd.C Kd.string W7 A2 m.length m from (by rw [hnd]; exact Kd.C_drewN HM6.out _))
  clear hnd HB6 HL6 HM6 cv1 cv2
  go_wp2_with fail
  refine (num14_same _ _).mono ?_
  rintro e W8 ⟨rfl, ⟨nd, hnd⟩⟩
  have HB8 := Aside0.mk (show Below w.heap.size w W8 from (by rw [hnd]; exact pw_below_drewN HB7.out _))
  have HL8 := Aside0.mk (show Kd.C Kd.string W8 A1 ([] : List ByteArray).length ([] : List ByteArray) from (by rw [hnd]; exact Kd.C_drewN HL7.out _))
  have HM8 := Aside0.mk (show Kd.C Kd.string W8 A2 m.length m from (by rw [hnd]; exact Kd.C_drewN HM7.out _))
  clear hnd HB7 HL7 HM7
  go_wp2_with fail
  refine (works14_true _).mono ?_
  rintro e Wz ⟨rfl, hbz⟩
  have HBz := Aside0.mk (below_then HB8.out HB8.out.size hbz)
  clear hbz
  go_wp2
  go_ret
  exact ⟨rfl, HBz.out⟩
set_option maxRecDepth 100000 in
set_option maxHeartbeats 4000000 in
theorem ag_nn (A : Option Addr) (c : Nat) (b : List Int) (count : Int) (w : World) (hC : Kd.C (Kd.int .u8) w A b.length b) (hc : b.length ≤ c) (hl : b.length ≤ 3000) (x : Int) (h1 : strings_ReadLengths.f b count = some ([], x)) (hx : x ≠ 0) (y : Int) (h2 : strings_ReadPrefixes.f b count = some ([], y)) (hy : y ≠ 0) :
    Calls Try.prog 9 #[.slice A b.length c, .int .i64 count] w fun e w' => e = .returned (.bool true) ∧ Below w.heap.size w w' := by
  have HC := Aside0.mk hC
  have H1 := Aside0.mk (fun (W : World) (h : Kd.C (Kd.int .u8) W A b.length b) => strings_ReadLengths.calls A c b count _ _ W h hc h1)
  have H2 := Aside0.mk (fun (W : World) (h : Kd.C (Kd.int .u8) W A b.length b) => strings_ReadPrefixes.calls A c b count _ _ W h hc h2)
  have qx : (x == 0) = false := by simp [hx]
  have qy : (y == 0) = false := by simp [hy]
  have h1b : decide ((b.length : Int) > 3000) = false := decide_eq_false (by omega)
  clear hC hl h1 h2 hx hy
  go_enter Try.func9, Try.ntmps9
  go_wp2_with fail
  refine (H1.out _ HC.out).mono ?_
  rintro e W1 ⟨v1, rfl, hR1, hb1⟩
  obtain ⟨A1, c1, rfl, hc1, hC1⟩ := Kd.R_reads hR1
  have HB1 := Aside0.mk hb1
  have HL1 := Aside0.mk hC1
  clear hR1 hb1 hC1
  rw [show ([] : List ByteArray).length = 0 from rfl]
  go_wp2_with fail
  refine (H2.out _ (Kd.C_below HC.out HB1.out)).mono ?_
  rintro e W2 ⟨v2, rfl, hR2, hb2⟩
  obtain ⟨A2, c2, rfl, hc2, hC2⟩ := Kd.R_reads hR2
  have HB2 := Aside0.mk (below_then HB1.out HB1.out.size hb2)
  have HL2 := Aside0.mk (Kd.C_below HL1.out hb2)
  have HM2 := Aside0.mk hC2
  clear hR2 hb2 hC2 HL1 HB1
  rw [show ([] : List ByteArray).length = 0 from rfl]
  go_wp2_with fail
  refine (num14_same _ _).mono ?_
  rintro e W3 ⟨rfl, ⟨nd, hnd⟩⟩
  have HB3 := Aside0.mk (show Below w.heap.size w W3 from (by rw [hnd]; exact pw_below_drewN HB2.out _))
  have HL3 := Aside0.mk (show Kd.C Kd.string W3 A1 ([] : List ByteArray).length ([] : List ByteArray) from (by rw [hnd]; exact Kd.C_drewN HL2.out _))
  have HM3 := Aside0.mk (show Kd.C Kd.string W3 A2 ([] : List ByteArray).length ([] : List ByteArray) from (by rw [hnd]; exact Kd.C_drewN HM2.out _))
  clear hnd HB2 HL2 HM2
  go_wp2_with fail
  refine (num14_same _ _).mono ?_
  rintro e W4 ⟨rfl, ⟨nd, hnd⟩⟩
  have HB4 := Aside0.mk (show Below w.heap.size w W4 from (by rw [hnd]; exact pw_below_drewN HB3.out _))
  have HL4 := Aside0.mk (show Kd.C Kd.string W4 A1 ([] : List ByteArray).length ([] : List ByteArray) from (by rw [hnd]; exact Kd.C_drewN HL3.out _))
  have HM4 := Aside0.mk (show Kd.C Kd.string W4 A2 ([] : List ByteArray).length ([] : List ByteArray) from (by rw [hnd]; exact Kd.C_drewN HM3.out _))
  clear hnd HB3 HL3 HM3
  go_wp2_with fail
  refine (num14_same _ _).mono ?_
  rintro e W5 ⟨rfl, ⟨nd, hnd⟩⟩
  have HB5 := Aside0.mk (show Below w.heap.size w W5 from (by rw [hnd]; exact pw_below_drewN HB4.out _))
  have HL5 := Aside0.mk (show Kd.C Kd.string W5 A1 ([] : List ByteArray).length ([] : List ByteArray) from (by rw [hnd]; exact Kd.C_drewN HL4.out _))
  have HM5 := Aside0.mk (show Kd.C Kd.string W5 A2 ([] : List ByteArray).length ([] : List ByteArray) from (by rw [hnd]; exact Kd.C_drewN HM4.out _))
  clear hnd HB4 HL4 HM4
  go_wp2_with fail
  refine (num14_same _ _).mono ?_
  rintro e W6 ⟨rfl, ⟨nd, hnd⟩⟩
  have HB6 := Aside0.mk (show Below w.heap.size w W6 from (by rw [hnd]; exact pw_below_drewN HB5.out _))
  have HL6 := Aside0.mk (show Kd.C Kd.string W6 A1 ([] : List ByteArray).length ([] : List ByteArray) from (by rw [hnd]; exact Kd.C_drewN HL5.out _))
  have HM6 := Aside0.mk (show Kd.C Kd.string W6 A2 ([] : List ByteArray).length ([] : List ByteArray) from (by rw [hnd]; exact Kd.C_drewN HM5.out _))
  clear hnd HB5 HL5 HM5
  go_wp2_with fail
  refine (works14_true _).mono ?_
  rintro e Wz ⟨rfl, hbz⟩
  have HBz := Aside0.mk (below_then HB6.out HB6.out.size hbz)
  clear hbz
  go_wp2
  go_ret
  exact ⟨rfl, HBz.out⟩
theorem ag_long (A : Option Addr) (c : Nat) (b : List Int) (count : Int) (w : World) (hc : b.length ≤ c) (hl : 3000 < b.length) :
    Calls Try.prog 9 #[.slice A b.length c, .int .i64 count] w fun e w' => e = .returned (.bool true) ∧ Below w.heap.size w w' := by
  have h1b : decide ((b.length : Int) > 3000) = true := decide_eq_true (by omega)
  clear hl
  go_enter Try.func9, Try.ntmps9
  go_wp2_with fail
  refine (works14_true _).mono ?_
  rintro e W3 ⟨rfl, hb3⟩
  have HB3 := Aside0.mk hb3
  clear hb3
  go_wp2
  go_ret
  exact ⟨rfl, HB3.out⟩
theorem numsT_err {count : Int} {b : List Int} {x : Int} (h : numsT count b = .error x) : x ≠ 0 := by
  unfold numsT at h
  by_cases h0 : (D13.beginR b).2.2 = 0
  · rw [if_pos h0] at h
    by_cases h1 : ((D13.beginR b).1.length : Int) = count
    · rw [if_pos h1] at h; cases h
    · rw [if_neg h1] at h; cases h; decide
  · rw [if_neg h0] at h; cases h; exact h0
theorem sumT_err : ∀ (l : List Int) (s x : Int), sumT l s = .error x → x ≠ 0
  | [], s, x, h => by rw [sumT] at h; cases h
  | n :: l, s, x, h => by
    rw [sumT] at h
    by_cases h0 : 0 ≤ n
    · rw [if_pos h0] at h
      by_cases h1 : n ≤ 1048576 - s
      · rw [if_pos h1] at h; exact sumT_err l _ x h
      · rw [if_neg h1] at h; cases h; decide
    · rw [if_neg h0] at h; cases h; decide
theorem textsT_err {count : Int} {b : List Int} {x : Int} (h : textsT count b = .error x) : x ≠ 0 := by
  unfold textsT at h
  cases hn : numsT count b with
  | error y => rw [hn] at h; cases h; exact numsT_err hn
  | ok p =>
    obtain ⟨L, r⟩ := p
    rw [hn] at h
    simp only [] at h
    cases hs : sumT L 0 with
    | error y => rw [hs] at h; cases h; exact sumT_err _ _ _ hs
    | ok s =>
      rw [hs] at h
      simp only [] at h
      by_cases hc : s ≤ (r.length : Int)
      · rw [if_pos hc] at h; cases h
      · rw [if_neg hc] at h; cases h; decide
theorem preT_err : ∀ (k : List Int) (rest : List ByteArray) (last : ByteArray) (sum x : Int), preT k rest last sum = .error x → x ≠ 0
  | [], rest, last, sum, x, h => by rw [preT_nil] at h; cases h
  | n :: k, [], last, sum, x, h => by
    rw [preT] at h
    · cases h
    · intros; simp_all
  | n :: k, s :: rest, last, sum, x, h => by
    rw [preT] at h
    by_cases c1 : 0 ≤ n ∧ n ≤ (last.size : Int)
    · rw [if_pos c1] at h
      by_cases c2 : sum + (n + (s.size : Int)) ≤ 1048576
      · rw [if_pos c2] at h
        cases hp : preT k rest (last.extract 0 n.toNat ++ s) (sum + (n + (s.size : Int))) with
        | error y => rw [hp] at h; cases h; exact preT_err k rest _ _ _ hp
        | ok o => rw [hp] at h; cases h
      · rw [if_neg c2] at h; cases h; decide
    · rw [if_neg c1] at h; cases h; decide
theorem prefT_err {count : Int} {whole b : List Int} {x : Int} (h : prefT count whole b = .error x) : x ≠ 0 := by
  unfold prefT at h
  cases hn : numsT count b with
  | error y => rw [hn] at h; cases h; exact numsT_err hn
  | ok p =>
    obtain ⟨L, r⟩ := p
    rw [hn] at h
    simp only [] at h
    cases ht : textsT count r with
    | error y => rw [ht] at h; cases h; exact textsT_err ht
    | ok q =>
      obtain ⟨rest, r2⟩ := q
      rw [ht] at h
      simp only [] at h
      cases hp : preT L rest ⟨#[]⟩ 0 with
      | error y => rw [hp] at h; cases h; exact preT_err _ _ _ _ _ hp
      | ok out =>
        rw [hp] at h
        simp only [] at h
        by_cases he : (strOfNums (prefixesZ out).1).toList = (strOfNums (whole.take (whole.length - r2.length))).toList
        · rw [if_pos he] at h; cases h
        · rw [if_neg he] at h; cases h; decide
theorem readT_way (count : Int) (res : Except Int (List ByteArray × List Int)) (hne : ∀ x, res = .error x → x ≠ 0) : (∃ l, res = .ok (l, []) ∧ readT count res = (l, 0)) ∨ ∃ x, x ≠ 0 ∧ readT count res = ([], x) := by
  by_cases hc : count < 0 ∨ 65536 < count
  · refine .inr ⟨2, by decide, ?_⟩
    unfold readT
    rw [if_pos hc]
  · have h0 : 0 ≤ count := by omega
    have h1 : count ≤ 65536 := by omega
    cases res with
    | error x => exact .inr ⟨x, hne x rfl, readT_err h0 h1 x⟩
    | ok p =>
      obtain ⟨l, r⟩ := p
      cases r with
      | nil => exact .inl ⟨l, rfl, readT_ok h0 h1⟩
      | cons x r => exact .inr ⟨7, by decide, readT_more h0 h1⟩
theorem ag_all (A : Option Addr) (c : Nat) (b : List Int) (count : Int) (w : World) (hC : Kd.C (Kd.int .u8) w A b.length b) (hc : b.length ≤ c) (hu : ∀ x ∈ b, 0 ≤ x ∧ x ≤ 255) :
    Calls Try.prog 9 #[.slice A b.length c, .int .i64 count] w fun e w' => e = .returned (.bool true) ∧ Below w.heap.size w w' := by
  by_cases hl : 3000 < b.length
  · exact ag_long A c b count w hc hl
  · have f1 := fReadLengths hu (by omega) count
    have f2 := fReadPrefixes hu (by omega) count
    rcases readT_way count (textsT count b) (fun x h => textsT_err h) with ⟨l, e1, r1⟩ | ⟨x, hx, r1⟩ <;> rcases readT_way count (prefT count b b) (fun x h => prefT_err h) with ⟨m, e2, r2⟩ | ⟨y, hy, r2⟩ <;> rw [r1] at f1 <;> rw [r2] at f2
    · obtain ⟨a1, a2, a3⟩ := again_l hu e1
      obtain ⟨b1, b2, b3⟩ := again_p hu e2
      exact ag_yy A c b count w hC hc (by omega) l f1 ((fLengths a3).trans (congrArg some a1)) a2 m f2 ((fPrefixes b3).trans (congrArg some b1)) b2
    · obtain ⟨a1, a2, a3⟩ := again_l hu e1
      exact ag_yn A c b count w hC hc (by omega) l f1 ((fLengths a3).trans (congrArg some a1)) a2 y f2 hy
    · obtain ⟨b1, b2, b3⟩ := again_p hu e2
      exact ag_ny A c b count w hC hc (by omega) x f1 hx m f2 ((fPrefixes b3).trans (congrArg some b1)) b2
    · exact ag_nn A c b count w hC hc (by omega) x f1 hx y f2 hy
end Go.Proofs.Ytcdephhplmcmjaa.X
end

section
namespace Go.Proofs.Ytcdephhplmcmjaa.X
open Go.RowKit Go.Proofs.YtcdephhplmcmjaaW.PrintWords Go.Proofs.YtcdephhplmcmjaaW.PrintLast Go.Proofs.YtcdephhplmcmjaaW.PrintMore
attribute [local go_sem] max2_int min2_int max_two min_two max_three min_three max_four min_four
set_option linter.unusedVariables false
set_option linter.unusedSimpArgs false
def marquetrylaw14_StringsAgain.f (l0 : List Int) (a1 : Int) : Option Bool := if u8All l0 = true then some true else none
theorem marquetrylaw14_StringsAgain.calls (A0 : Option Addr) (c0 : Nat) (l0 : List Int) (a1 : Int) (r : Bool) (w : World) (hr0 : Kd.C (Kd.int .u8) w A0 l0.length l0) (hc0 : l0.length ≤ c0) (h : marquetrylaw14_StringsAgain.f l0 a1 = some r) :
    Calls Try.prog 9 #[.slice A0 l0.length c0, .int .i64 a1] w fun e w' => e = .returned (.bool r) ∧ Below w.heap.size w w' := by
  unfold marquetrylaw14_StringsAgain.f at h
  by_cases hu : u8All l0 = true
  · rw [if_pos hu] at h
    obtain rfl := Option.some.inj h
    exact ag_all A0 c0 l0 a1 w hr0 hc0 (u8All_iff.1 hu)
  · rw [if_neg hu] at h; cases h
def marquetrylaw14_StringsAgain.Pure : Prop := ∀ (l0 : List Int) (a1 : Int), ((∀ x_ ∈ l0, (Lit.int .u8 x_).wf = true) ∧ l0.length ≤ maxLen ∧ l0.length * 1 ≤ 140737488351232) → (Lit.int .i64 a1).wf = true → marquetrylaw14_StringsAgain.f l0 a1 = some true
end Go.Proofs.Ytcdephhplmcmjaa.X
end

section
namespace Go.Proofs.Ytcdephhplmcmjaa.Rd
open Go.ChangeShapes Go.WideShapes Go.Deep Go.RowKit Go.Joins Go.Proofs.YtcdephhplmcmjaaW.PrintWords
structure Opens (P : Program) (t : TypeId) {α : Type} (d : Kd α) (Wf : α → Prop) : Prop where
  opens : ∀ {H : Type} {enc : TypeId × Value → H} {w : World} {base : Nat} {spare : Nat → Bool} {held : Bool} {n : Nat} {cs : List Value} {y : DataW H × List MemPlace},
    DataW.trod enc P w base spare held n t cs = some y → (∀ m ∈ y.1.weights P t, m ≤ reachBytes) → ∃ x, d.K w x cs ∧ Wf x
theorem reach_le {m : Nat} (h : m ≤ reachBytes) : m ≤ 140737488351232 := h
theorem opens_int {P : Program} {t : TypeId} {k : IntKind} (hu : P.underlying t = some (.int k)) : Opens P t (Kd.int k) (fun x => (Lit.int k x).wf = true) := by
  refine ⟨fun {H enc w base spare held n cs y} h _ => ?_⟩
  obtain ⟨x, rfl, _, hw⟩ := DataW.trod_int hu h
  exact ⟨x, rfl, hw⟩
theorem list_of {α : Type} {p : Nat → α → Prop} : ∀ (n : Nat), (∀ i, i < n → ∃ x, p i x) → ∃ xs : List α, xs.length = n ∧ ∀ i x, xs[i]? = some x → p i x
  | 0, _ => ⟨[], rfl, fun i x h => by simp at h⟩
  | n + 1, h => by
    obtain ⟨xs, hl, hx⟩ := list_of n (fun i hi => h i (by omega))
    obtain ⟨x, hp⟩ := h n (by omega)
    refine ⟨xs ++ [x], by simp [hl], fun i y hy => ?_⟩
    rcases Nat.lt_or_ge i xs.length with hi | hi
    · rw [List.getElem?_append_left hi] at hy; exact hx i y hy
    · have hi' : i = xs.length := by
        have := (List.getElem?_eq_some_iff.1 hy).1
        simp at this; omega
      subst hi'
      have : x = y := by simpa using hy
      subst this
      rw [hl]; exact hp
theorem weights_all {H : Type} {P : Program} {e : TypeId} : ∀ (ds : List (DataW H)) (d : DataW H), d ∈ ds → ∀ m ∈ d.weights P e, m ∈ DataW.weightsAll P e ds
  | [], d, h, _, _ => by simp at h
  | d0 :: ds, d, h, m, hm => by
    simp only [DataW.weightsAll, List.mem_append]
    rcases List.mem_cons.1 h with rfl | h
    · exact .inl hm
    · exact .inr (weights_all ds d h m hm)
theorem opens_slice {P : Program} {t e : TypeId} {α : Type} {d : Kd α} {Wf : α → Prop} {B : Nat} (hu : P.underlying t = some (.slice e)) (hsz : P.cellsOf e = d.sz) (hB : P.bytesOf e = B) (ho : Opens P e d Wf) :
    Opens P t (Kd.slice e d) (fun xs => (∀ x ∈ xs, Wf x) ∧ xs.length ≤ maxLen ∧ xs.length * B ≤ 140737488351232) := by
  refine ⟨fun {H enc w base spare held n cs y} h hw => ?_⟩
  rcases open_slice hu h with ⟨rfl, _⟩ | ⟨a, len, cap, m, n', D, Pl, rfl, hb, hl, hm, hmm, rfl, hx⟩
  · exact ⟨[], ⟨none, 0, rfl, Nat.le_refl _, rfl, Nat.zero_le _, fun h => absurd h (by simp)⟩, by simp⟩
  · have hlm : len ≤ m := by rw [hmm]; split <;> omega
    have hsize : len * B ≤ 140737488351232 := by
      have := hw ((((List.range len).map D).length + ((List.range (m - len)).map fun j => D (len + j)).length) * P.bytesOf e) (by simp [DataW.weights, hu])
      rw [hB] at this
      refine Nat.le_trans (Nat.mul_le_mul_right _ ?_) (reach_le this)
      simp
    obtain ⟨xs, hxl, hxs⟩ := list_of (p := fun i x => ∃ cs', w.cells? base (a.add (i * P.cellsOf e)) (P.cellsOf e) = some cs' ∧ d.K w x cs' ∧ Wf x) len (fun i hi => by
      obtain ⟨cs', h1, h2⟩ := hx i (by omega)
      obtain ⟨x, hk, hwf⟩ := ho.opens h2 (fun q hq => hw q (by
        simp only [DataW.weights, hu, List.mem_cons, List.mem_append]
        exact .inr (.inl (weights_all _ (D i) (List.mem_map.2 ⟨i, List.mem_range.2 hi, rfl⟩) q hq))))
      exact ⟨x, cs', h1, hk, hwf⟩)
    subst hxl
    refine ⟨xs, ⟨some a, cap, rfl, hl, rfl, ?_, fun _ => ⟨a, rfl, fun j p hp => ?_⟩⟩, ⟨fun x hx' => ?_, Nat.le_trans hl hm, hsize⟩⟩
    · unfold maxLen at hm; omega
    · obtain ⟨cs', h1, hk, _⟩ := hxs j p hp
      obtain ⟨_, hcl, hcc⟩ := World.cells?_some h1
      refine ⟨cs', by rw [hcl, hsz], hk, fun i u hiu => ?_⟩
      have hi : i < P.cellsOf e := by rw [← hcl]; exact (List.getElem?_eq_some_iff.1 hiu).1
      rw [← hsz, ← Go.Deep.add_add, hcc i hi]
      exact hiu
    · obtain ⟨i, hi⟩ := List.getElem?_of_mem hx'
      exact (hxs i x hi).choose_spec.2.2
theorem one_of {P : Program} {fs : Array Field} (hone : oneCellFields P fs = true) {j : Nat} {f : Field} (h : fs.toList[j]? = some f) : f.offset = j ∧ P.cellsOf f.type = 1 := hone_of hone j f (by simpa using h)
theorem opens_arg {P : Program} {t : TypeId} {α : Type} {d : Kd α} {Wf : α → Prop} (ho : Opens P t d Wf) {H : Type} {enc : TypeId × Value → H} {w : World} {base : Nat} {spare : Nat → Bool} {held : Bool} {v : Value} {dt : DataW H} {p : List MemPlace}
    (h : DataW.Trod enc P w base spare held t v dt p) {ts : List TypeId} {ds : List (DataW H)} {j : Nat} (hsz : (DataW.weightsEach P ts ds).all (· ≤ reachBytes) = true) (ht : ts[j]? = some t) (hd : ds[j]? = some dt) : ∃ x, d.K w x v.cells.toList ∧ Wf x := by
  obtain ⟨n, hn⟩ := h
  refine ho.opens hn (fun m hm => ?_)
  have := List.all_eq_true.1 hsz m (DataW.weights_mem_each ht hd m hm)
  simpa using this
end Go.Proofs.Ytcdephhplmcmjaa.Rd
end
