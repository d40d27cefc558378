/- StringsBack: texts of this seat in one (wip/merge.py): Ta, Tb, Ge, Tc, Td, Te, X50, Rd. -/
import Derived.Test.YtcdephhplmcmjaaGStringsBack3
import Derived.Test.YtcdephhplmcmjaaGStringsBack2
import Derived.Deep.RegionHeld3
import Derived.Test.YtcdephhplmcmjaaGStringsBack0
import Derived.Deep.Slices
import Derived.Lib.SmallJoins
import Derived.SizedLaws
section
namespace Go.Proofs.Ytcdephhplmcmjaa.X
open Go.RowKit Go.Proofs.YtcdephhplmcmjaaW.PrintWords Go.Proofs.YtcdephhplmcmjaaW.PrintLast Go.Proofs.YtcdephhplmcmjaaW.PrintMore
set_option linter.unusedVariables false
set_option linter.unusedSimpArgs false
theorem ba_eq {a b : ByteArray} (h : a.data.toList = b.data.toList) : a = b := by
  cases a; cases b
  simp only at h
  rw [Array.toList_inj.1 h]
theorem str_bytes (s : ByteArray) : strOfNums (bytesOf s) = s := by
  apply ba_eq
  unfold strOfNums bytesOf
  simp only [List.map_map]
  rw [List.map_congr_left (g := id) (fun b _ => by show UInt8.ofNat ((b.toNat : Int)).toNat = b; rw [Int.toNat_natCast]; exact UInt8.ofNat_toNat)]
  simp
theorem bytesOf_range (s : ByteArray) : ∀ x ∈ bytesOf s, 0 ≤ x ∧ x ≤ 255 := by
  intro x hx
  obtain ⟨b, _, rfl⟩ := List.mem_map.1 hx
  have := b.toNat_lt
  omega
theorem flatZ_range (l : List ByteArray) : ∀ x ∈ flatZ l, 0 ≤ x ∧ x ≤ 255 := by
  intro x hx
  obtain ⟨s, _, hs⟩ := List.mem_flatMap.1 hx
  exact bytesOf_range s x hs
theorem toList_eq {a b : ByteArray} : a.toList = b.toList ↔ a = b := by
  constructor
  · intro h
    rw [ByteArray.toList_eq, ByteArray.toList_eq] at h
    exact ba_eq h
  · intro h; rw [h]
theorem sumT_lens : ∀ (l : List ByteArray) (s : Int), 0 ≤ s → s + totZ l ≤ 1048576 → sumT (lensZ l) s = .ok (s + totZ l)
  | [], s, _, _ => by simp [lensZ, sumT, totZ]
  | a :: l, s, h0, h => by
    rw [totZ] at h
    have ih := sumT_lens l (s + (a.size : Int)) (by omega) (by omega)
    show sumT ((a.size : Int) :: lensZ l) s = _
    rw [sumT, if_pos (by omega), if_pos (by omega), ih, totZ]
    congr 1
    omega
theorem cutT_back : ∀ (l : List ByteArray) (tl : List Int), cutT (lensZ l) (flatZ l ++ tl) = (l, tl)
  | [], tl => rfl
  | a :: l, tl => by
    have ih := cutT_back l tl
    have hz : ((a.size : Int)).toNat = (bytesOf a).length := by rw [bytesOf_length]; rfl
    show cutT ((a.size : Int) :: lensZ l) (flatZ (a :: l) ++ tl) = _
    have he : flatZ (a :: l) ++ tl = bytesOf a ++ (flatZ l ++ tl) := by unfold flatZ; rw [List.flatMap_cons, List.append_assoc]
    rw [cutT, he, hz, List.take_left, List.drop_left, ih, str_bytes]
theorem numsT_back {L : List Int} (hx : ∀ x ∈ L, D13.inI x) (hl : L.length ≤ 65536) (tl : List Int) : numsT (L.length : Int) (D13.listB L ++ tl) = .ok (L, tl) := by
  unfold numsT
  rw [D13.begin_back hx hl tl]
  simp
theorem numsT_short {L : List Int} (hx : ∀ x ∈ L, D13.inI x) (hl : L.length ≤ 65536) {p s : List Int} (h : D13.listB L = p ++ s) (hs : s ≠ []) (count : Int) : numsT count p = .error 6 := by
  unfold numsT
  rw [D13.begin_short hx hl h hs]
  rfl
theorem textsT_back {l : List ByteArray} (h : longZ l = false) (tl : List Int) : textsT (l.length : Int) ((lengthsZ l).1 ++ tl) = .ok (l, tl) := by
  obtain ⟨ht, hl⟩ := longZ_no h
  have hi := lensZ_inI (l := l) (by omega)
  have hn := numsT_back hi (by rw [lensZ_length]; exact hl) (flatZ l ++ tl)
  rw [lensZ_length] at hn
  unfold textsT
  rw [lengthsZ_fine h, List.append_assoc, hn]
  simp only []
  rw [sumT_lens l 0 (by omega) (by omega)]
  simp only []
  rw [if_pos (by rw [List.length_append, flatZ_length]; omega), cutT_back]
theorem append_prefix {α : Type} : ∀ {a b p s : List α}, a ++ b = p ++ s → (∃ q, q ≠ [] ∧ a = p ++ q) ∨ ∃ p', p = a ++ p' ∧ b = p' ++ s
  | [], b, p, s, h => .inr ⟨p, rfl, h⟩
  | x :: a, b, [], s, h => .inl ⟨x :: a, by simp, rfl⟩
  | x :: a, b, y :: p, s, h => by
    rw [List.cons_append, List.cons_append] at h
    injection h with h1 h2
    subst h1
    rcases append_prefix h2 with ⟨q, hq, he⟩ | ⟨p', hp, he⟩
    · exact .inl ⟨q, hq, by rw [he]; rfl⟩
    · exact .inr ⟨p', by rw [hp]; rfl, he⟩
theorem textsT_short {l : List ByteArray} (h : longZ l = false) {p s : List Int} (he : (lengthsZ l).1 = p ++ s) (hs : s ≠ []) : textsT (l.length : Int) p = .error 6 := by
  obtain ⟨ht, hl⟩ := longZ_no h
  have hi := lensZ_inI (l := l) (by omega)
  rw [lengthsZ_fine h] at he
  unfold textsT
  rcases append_prefix he with ⟨q, hq, he2⟩ | ⟨p', hp, he2⟩
  · rw [numsT_short hi (by rw [lensZ_length]; exact hl) he2 hq]
  · have hn := numsT_back hi (by rw [lensZ_length]; exact hl) p'
    rw [lensZ_length] at hn
    rw [hp, hn]
    simp only []
    rw [sumT_lens l 0 (by omega) (by omega)]
    simp only []
    have hlen : p'.length + s.length = totZ l := by rw [← flatZ_length l, he2, List.length_append]
    have hs1 : 1 ≤ s.length := by
      rcases s with _ | ⟨x, s⟩
      · exact absurd rfl hs
      · simp
    rw [if_neg (by omega)]
end Go.Proofs.Ytcdephhplmcmjaa.X
end

section
namespace Go.Proofs.Ytcdephhplmcmjaa.X
open Go.RowKit Go.Proofs.YtcdephhplmcmjaaW.PrintWords Go.Proofs.YtcdephhplmcmjaaW.PrintLast Go.Proofs.YtcdephhplmcmjaaW.PrintMore
set_option linter.unusedVariables false
set_option linter.unusedSimpArgs false
theorem ex_front (s : ByteArray) (n : Nat) : (s.extract 0 n).data.toList = s.data.toList.take n := by
  rw [ByteArray.data_extract]; simp
theorem ex_back (s : ByteArray) (n : Nat) : (s.extract n s.size).data.toList = s.data.toList.drop n := by
  rw [ByteArray.data_extract]
  simp
  rw [List.take_of_length_le (by rw [List.length_drop, data_length]; omega)]
theorem comL_take : ∀ (a b : List UInt8), a.take (comL a b) = b.take (comL a b)
  | [], b => by simp [comL]
  | a :: as_, [] => by simp [comL]
  | a :: as_, b :: bs => by
    rw [comL]
    split
    · rename_i h
      rw [List.take_succ_cons, List.take_succ_cons, comL_take as_ bs, h]
    · simp
theorem com_join (a b : ByteArray) : a.extract 0 (comZ a b) ++ b.extract (comZ a b) b.size = b := by
  apply ba_eq
  rw [ByteArray.data_append, Array.toList_append, ex_front, ex_back]
  unfold comZ
  rw [comL_take, List.take_append_drop]
theorem preT_back : ∀ (l : List ByteArray) (last : ByteArray) (sum : Int), 0 ≤ sum → sum + (totZ l : Int) ≤ 1048576 → preT (firstsZ (pairsF last l)) (restsZ (pairsF last l)) last sum = .ok l
  | [], last, sum, _, _ => rfl
  | s :: l, last, sum, h0, h => by
    rw [totZ] at h
    have hc := comZ_le last s
    have hz : (s.extract (comZ last s) s.size).size = s.size - comZ last s := by rw [ByteArray.size_extract]; omega
    have ih := preT_back l s (sum + (s.size : Int)) (by omega) (by omega)
    show preT (((comZ last s : Nat) : Int) :: firstsZ (pairsF s l)) (s.extract (comZ last s) s.size :: restsZ (pairsF s l)) last sum = _
    rw [preT, if_pos ⟨by omega, by omega⟩, if_pos (by rw [hz]; omega), hz, show ((comZ last s : Nat) : Int).toNat = comZ last s from rfl, com_join, show sum + (((comZ last s : Nat) : Int) + ((s.size - comZ last s : Nat) : Int)) = sum + (s.size : Int) by omega, ih]
theorem firsts_in {l : List ByteArray} (h : longZ l = false) : ∀ x ∈ firstsZ (pairsZ l), D13.inI x := fun x hx => by
  obtain ⟨p, hp, rfl⟩ := List.mem_map.1 hx
  obtain ⟨h1, h2, h3⟩ := pairsF_rests l ⟨#[]⟩ p hp
  have := size_le_tot l _ h3
  have := (longZ_no h).1
  unfold D13.inI
  omega
theorem firsts_len (l : List ByteArray) : (firstsZ (pairsZ l)).length = l.length := by rw [firstsZ_length, pairsZ, pairsF_length]
theorem rests_len (l : List ByteArray) : (restsZ (pairsZ l)).length = l.length := by rw [restsZ, List.length_map, pairsZ, pairsF_length]
theorem prefT_back {l : List ByteArray} (h : longZ l = false) (tl : List Int) : prefT (l.length : Int) ((prefixesZ l).1 ++ tl) ((prefixesZ l).1 ++ tl) = .ok (l, tl) := by
  obtain ⟨ht, hl⟩ := longZ_no h
  have hn := numsT_back (firsts_in h) (by rw [firsts_len]; exact hl) ((lengthsZ (restsZ (pairsZ l))).1 ++ tl)
  have hx := textsT_back (rests_short h) tl
  have hp := preT_back l ⟨#[]⟩ 0 (by omega) (by omega)
  rw [firsts_len] at hn
  rw [rests_len] at hx
  obtain ⟨wh, hwh⟩ : ∃ wh, wh = (prefixesZ l).1 ++ tl := ⟨_, rfl⟩
  have he : wh = D13.listB (firstsZ (pairsZ l)) ++ ((lengthsZ (restsZ (pairsZ l))).1 ++ tl) := by rw [hwh, prefixesZ_fine h, List.append_assoc]
  have ht2 : wh.take (wh.length - tl.length) = (prefixesZ l).1 := by
    rw [hwh, List.length_append, Nat.add_sub_cancel, List.take_left]
  rw [← hwh]
  unfold prefT
  rw [show numsT (l.length : Int) wh = .ok (firstsZ (pairsZ l), (lengthsZ (restsZ (pairsZ l))).1 ++ tl) by rw [he]; exact hn]
  simp only []
  rw [hx]
  simp only []
  rw [show preT (firstsZ (pairsZ l)) (restsZ (pairsZ l)) ⟨#[]⟩ 0 = .ok l from hp]
  simp only []
  rw [ht2, if_pos rfl]
theorem prefT_short {l : List ByteArray} (h : longZ l = false) {p s : List Int} (he : (prefixesZ l).1 = p ++ s) (hs : s ≠ []) (whole : List Int) : prefT (l.length : Int) whole p = .error 6 := by
  obtain ⟨ht, hl⟩ := longZ_no h
  rw [prefixesZ_fine h] at he
  unfold prefT
  rcases append_prefix he with ⟨q, hq, he2⟩ | ⟨p', hp, he2⟩
  · rw [numsT_short (firsts_in h) (by rw [firsts_len]; exact hl) he2 hq]
  · have hn := numsT_back (firsts_in h) (by rw [firsts_len]; exact hl) p'
    have hx := textsT_short (rests_short h) he2 hs
    rw [firsts_len] at hn
    rw [rests_len] at hx
    rw [hp, hn]
    simp only []
    rw [hx]
theorem lengthsZ_u8 (l : List ByteArray) : ∀ x ∈ (lengthsZ l).1, 0 ≤ x ∧ x ≤ 255 := by
  unfold lengthsZ
  split
  · intro x hx; cases hx
  · intro x hx
    rcases List.mem_append.1 hx with hx | hx
    · exact D13.listB_range _ x hx
    · exact flatZ_range _ x hx
theorem prefixesZ_u8 (l : List ByteArray) : ∀ x ∈ (prefixesZ l).1, 0 ≤ x ∧ x ≤ 255 := by
  unfold prefixesZ
  split
  · intro x hx; cases hx
  · intro x hx
    rcases List.mem_append.1 hx with hx | hx
    · exact D13.listB_range _ x hx
    · exact lengthsZ_u8 _ x hx
theorem lengthsZ_len {l : List ByteArray} (h : longZ l = false) : (lengthsZ l).1.length ≤ 2000000 := by
  obtain ⟨ht, hl⟩ := longZ_no h
  rw [lengthsZ_fine h, List.length_append, flatZ_length]
  have := D13.listB_short (lensZ_inI (l := l) (by omega)) (by rw [lensZ_length]; exact hl)
  omega
theorem prefixesZ_len {l : List ByteArray} (h : longZ l = false) : (prefixesZ l).1.length ≤ 3000000 := by
  obtain ⟨ht, hl⟩ := longZ_no h
  rw [prefixesZ_fine h, List.length_append]
  have := D13.listB_short (firsts_in h) (by rw [firsts_len]; exact hl)
  have := lengthsZ_len (rests_short h)
  omega
theorem same_s (l : List ByteArray) (hl : l.length ≤ 1000000000) : ∀ (d k i : Nat), i + d = l.length → d < k → marquetrylaw14_same.l0 k l l (i : Int) = some true
  | 0, k, i, h, hk => by
    obtain ⟨k, rfl⟩ : ∃ j, k = j + 1 := ⟨k - 1, by omega⟩
    rw [marquetrylaw14_same.l0, if_neg (by omega)]
  | d + 1, k, i, h, hk => by
    obtain ⟨k, rfl⟩ : ∃ j, k = j + 1 := ⟨k - 1, by omega⟩
    rw [marquetrylaw14_same.l0, if_pos (by omega), if_pos (by omega), if_pos (by omega), if_pos rfl, show wrap64 ((i : Int) + 1) = ((i + 1 : Nat) : Int) by rw [Bx.w64 (by omega) (by omega)]; omega]
    exact same_s l hl d k (i + 1) (by omega) (by omega)
theorem sameS {k : Nat} {l : List ByteArray} (hl : l.length ≤ 1000000000) (hk : l.length < k) : marquetrylaw14_same.f k l l = some true := by
  unfold marquetrylaw14_same.f
  rw [if_pos rfl]
  exact same_s l hl l.length k 0 (by omega) hk
theorem fLengths {l : List ByteArray} (h : longZ l = false) : strings_Lengths.f l = some (lengthsZ l) := by
  unfold strings_Lengths.f
  rw [if_pos (by have := (longZ_no h).2; omega)]
theorem fPrefixes {l : List ByteArray} (h : longZ l = false) : strings_Prefixes.f l = some (prefixesZ l) := by
  unfold strings_Prefixes.f
  rw [if_pos (by have := (longZ_no h).2; omega)]
theorem fReadLengths {b : List Int} (hu : ∀ x ∈ b, 0 ≤ x ∧ x ≤ 255) (hl : b.length ≤ 100000000) (count : Int) : strings_ReadLengths.f b count = some (readT count (textsT count b)) := by
  unfold strings_ReadLengths.f
  rw [if_pos ⟨u8All_iff.2 hu, by omega⟩]
theorem fReadPrefixes {b : List Int} (hu : ∀ x ∈ b, 0 ≤ x ∧ x ≤ 255) (hl : b.length ≤ 100000000) (count : Int) : strings_ReadPrefixes.f b count = some (readT count (prefT count b b)) := by
  unfold strings_ReadPrefixes.f
  rw [if_pos ⟨u8All_iff.2 hu, by omega⟩]
theorem readT_ok {count : Int} (h0 : 0 ≤ count) (h1 : count ≤ 65536) {l : List ByteArray} : readT count (.ok (l, [])) = (l, 0) := by
  unfold readT
  rw [if_neg (by omega)]
  rfl
theorem readT_more {count : Int} (h0 : 0 ≤ count) (h1 : count ≤ 65536) {l : List ByteArray} {x : Int} {r : List Int} : readT count (.ok (l, x :: r)) = ([], 7) := by
  unfold readT
  rw [if_neg (by omega)]
  exact if_neg (by simp)
theorem readT_err {count : Int} (h0 : 0 ≤ count) (h1 : count ≤ 65536) (x : Int) : readT count (.error x) = ([], x) := by
  unfold readT
  rw [if_neg (by omega)]
def S1 : List ByteArray := [⟨#[97, 98]⟩, ⟨#[99]⟩]
def S2 : List ByteArray := [⟨#[97, 98]⟩, ⟨#[97, 98, 99]⟩]
theorem S1_long : longZ S1 = false := by decide
theorem S2_long : longZ S2 = false := by decide
theorem list_21 : D13.listB [2, 1] = [128, 1, 4, 2, 4, 1, 0, 0, 0, 0] := by
  have e1 : allD [2, 1] = [[-1]] := by kernel_rfl
  have e2 : D13.blkB [-1] = D13.vb 1 ++ [0, 0, 0, 0] := by kernel_rfl
  unfold D13.listB
  rw [e1, List.flatMap_cons, e2, show D13.vb [(2 : Int), 1].length = [2] from D13.vb_small (by decide), show D13.vb (D13.zz (rd [2, 1] 0)).toNat = [4] from D13.vb_small (by decide), show D13.vb 1 = [1] from D13.vb_small (by decide)]
  rfl
theorem list_02 : (D13.listB [0, 2]).length = 10 := by
  have e1 : allD [0, 2] = [[2]] := by kernel_rfl
  have e2 : D13.blkB [2] = D13.vb 4 ++ [0, 0, 0, 0] := by kernel_rfl
  unfold D13.listB
  rw [e1, List.flatMap_cons, e2, show D13.vb [(0 : Int), 2].length = [2] from D13.vb_small (by decide), show D13.vb (D13.zz (rd [0, 2] 0)).toNat = [0] from D13.vb_small (by decide), show D13.vb 4 = [4] from D13.vb_small (by decide)]
  rfl
theorem S1_bytes : lengthsZ S1 = ([128, 1, 4, 2, 4, 1, 0, 0, 0, 0, 97, 98, 99], 0) := by
  rw [lengthsZ_fine S1_long, show lensZ S1 = [2, 1] from rfl, show flatZ S1 = [97, 98, 99] from rfl, list_21]
  rfl
theorem S2_rests : restsZ (pairsZ S2) = S1 := by
  show [(⟨#[97, 98]⟩ : ByteArray).extract 0 2, (⟨#[97, 98, 99]⟩ : ByteArray).extract 2 3] = S1
  rw [show (⟨#[97, 98]⟩ : ByteArray).extract 0 2 = ⟨#[97, 98]⟩ from ba_eq (by rw [ex_front]; rfl), show (⟨#[97, 98, 99]⟩ : ByteArray).extract 2 3 = ⟨#[99]⟩ from ba_eq ((ex_back ⟨#[97, 98, 99]⟩ 2).trans rfl)]
  rfl
theorem S2_bytes : (prefixesZ S2).1.length = 23 ∧ (prefixesZ S2).2 = 0 := by
  rw [prefixesZ_fine S2_long, S2_rests, show firstsZ (pairsZ S2) = [0, 2] from rfl, S1_bytes, List.length_append, list_02]
  exact ⟨rfl, rfl⟩
theorem works14 {k : Nat} (hk : 4 ≤ k) : marquetrylaw14_works.f k = some true := by
  have h1 := fLengths S1_long
  have h2 := fPrefixes S2_long
  have h3 := fReadLengths (lengthsZ_u8 S1) (by have := lengthsZ_len S1_long; omega) 2
  have h4 := fReadPrefixes (prefixesZ_u8 S2) (by have := prefixesZ_len S2_long; omega) 2
  have t1 := textsT_back S1_long []
  have t2 := prefT_back S2_long []
  rw [List.append_nil] at t1 t2
  rw [show ((S1.length : Nat) : Int) = 2 from rfl] at t1
  rw [show ((S2.length : Nat) : Int) = 2 from rfl] at t2
  rw [t1, readT_ok (by omega) (by omega)] at h3
  rw [t2, readT_ok (by omega) (by omega)] at h4
  have s1 := sameS (k := k) (l := S1) (by decide) (by show 2 < k; omega)
  have s2 := sameS (k := k) (l := S2) (by decide) (by show 2 < k; omega)
  have h5 := S2_bytes
  unfold marquetrylaw14_works.f marquetrylaw14_num.f
  change ((strings_Lengths.f S1).bind fun bt129 => _) = _
  rw [h1, Option.bind_some]
  change ((strings_Prefixes.f S2).bind fun bt136 => _) = _
  rw [h2, Option.bind_some, h3, Option.bind_some, h4, Option.bind_some]
  simp only []
  rw [S1_bytes, h5.2, h5.1]
  rw [if_pos (by rw [ByteArray.toList_eq]; rfl)]
  simp only [Option.bind_some]
  rw [if_pos (by kernel_rfl)]
  change ((marquetrylaw14_same.f k S1 S1).bind fun t155 => _) = _
  rw [s1, Option.bind_some, if_pos rfl]
  change ((marquetrylaw14_same.f k S2 S2).bind fun t159 => _) = _
  rw [s2, Option.bind_some, if_pos rfl]
  rfl
end Go.Proofs.Ytcdephhplmcmjaa.X
end

section
namespace Go.Proofs.Ytcdephhplmcmjaa.X
open Go.RowKit Go.Proofs.YtcdephhplmcmjaaW.PrintWords Go.Proofs.YtcdephhplmcmjaaW.PrintLast Go.Proofs.YtcdephhplmcmjaaW.PrintMore
set_option linter.unusedVariables false
set_option linter.unusedSimpArgs false
def ErrS {α : Type} (res : Except Int (α × List Int)) : Prop := ∀ x, res = .error x → x = 6 ∨ x = 8
theorem ErrS.ok {α : Type} (v : α) (b : List Int) : ErrS (.ok (v, b)) := fun _ h => by cases h
theorem ErrS.e8 {α : Type} : ErrS (.error 8 : Except Int (α × List Int)) := fun _ h => by cases h; exact .inr rfl
theorem ErrS.and {α β : Type} {r : Except Int (α × List Int)} {k : α → List Int → Except Int (β × List Int)} (h : ErrS r) (hk : ∀ v b, ErrS (k v b)) : ErrS (andS r k) := by
  intro x hx
  cases r with
  | error y => rw [andS_err] at hx; cases hx; exact h _ rfl
  | ok p => exact hk p.1 p.2 x hx
theorem ErrS.map {α β : Type} {f : α → β} {r : Except Int (α × List Int)} (h : ErrS r) : ErrS (mapS f r) := by
  intro x hx
  cases r with
  | error y => simp [mapS] at hx; subst hx; exact h _ rfl
  | ok p => simp [mapS] at hx
end Go.Proofs.Ytcdephhplmcmjaa.X
end

section
namespace Go.Proofs.Ytcdephhplmcmjaa.X
open Go.RowKit Go.Proofs.YtcdephhplmcmjaaW.PrintWords Go.Proofs.YtcdephhplmcmjaaW.PrintLast Go.Proofs.YtcdephhplmcmjaaW.PrintMore
set_option linter.unusedVariables false
set_option linter.unusedSimpArgs false
end Go.Proofs.Ytcdephhplmcmjaa.X
end

section
namespace Go.Proofs.Ytcdephhplmcmjaa.X
open Go.RowKit Go.Proofs.YtcdephhplmcmjaaW.PrintWords Go.Proofs.YtcdephhplmcmjaaW.PrintLast Go.Proofs.YtcdephhplmcmjaaW.PrintMore
set_option linter.unusedVariables false
set_option linter.unusedSimpArgs false
theorem works14_true (w : World) : Calls Try.prog 11 #[] w fun e w' => e = .returned (.bool true) ∧ Below w.heap.size w w' := marquetrylaw14_works.calls 4000 true w (works14 (by decide))
theorem num14_same (x : Int) (w : World) : Calls Try.prog 16 #[.int .i64 x] w fun e w' => e = .returned (.int .i64 x) ∧ Drawn0 w w' := marquetrylaw14_num.calls x x w rfl
end Go.Proofs.Ytcdephhplmcmjaa.X
end

section
namespace Go.Proofs.Ytcdephhplmcmjaa.X
open Go.RowKit Go.Proofs.YtcdephhplmcmjaaW.PrintWords Go.Proofs.YtcdephhplmcmjaaW.PrintLast Go.Proofs.YtcdephhplmcmjaaW.PrintMore
set_option linter.unusedVariables false
set_option linter.unusedSimpArgs false
theorem long14 (l : List ByteArray) (hs : ∀ s ∈ l, s.size ≤ 140737488351232) : ∀ (d k i n : Nat), i + d = l.length → d < k → i ≤ n → n ≤ 140737488354232 + 1 → ∃ r, marquetrylaw14_long.l0 k l (n : Int) (i : Int) = some r ∧ (r = false → n + totZ (l.drop i) + d ≤ 3000)
  | 0, k, i, n, h, hk, hi, hn => by
    obtain ⟨k, rfl⟩ : ∃ j, k = j + 1 := ⟨k - 1, by omega⟩
    rw [marquetrylaw14_long.l0, if_neg (by omega), List.drop_of_length_le (by omega)]
    exact ⟨_, rfl, fun h => by have := of_decide_eq_false h; rw [totZ]; omega⟩
  | d + 1, k, i, n, h, hk, hi, hn => by
    obtain ⟨k, rfl⟩ : ∃ j, k = j + 1 := ⟨k - 1, by omega⟩
    obtain ⟨s, hs0⟩ : ∃ s, l[i]? = some s := ⟨_, List.getElem?_eq_getElem (by omega)⟩
    have hsz := hs s (List.mem_of_getElem? hs0)
    rw [marquetrylaw14_long.l0, if_pos (by omega)]
    by_cases hc : n ≤ 3000
    · rw [if_pos (by omega), if_pos (by omega), rdOf_some hs0]
      have w1 : wrap64 ((wrap64 ((n : Int) + 1)) + (s.size : Int)) = ((n + 1 + s.size : Nat) : Int) := by
        rw [Bx.w64 (a := (n : Int) + 1) (by omega) (by omega), Bx.w64 (by omega) (by omega)]
        omega
      have w2 : wrap64 ((i : Int) + 1) = ((i + 1 : Nat) : Int) := by
        rw [Bx.w64 (by omega) (by omega)]
        omega
      rw [w1, w2]
      obtain ⟨r, h1, h2⟩ := long14 l hs d k (i + 1) (n + 1 + s.size) (by omega) (by omega) (by omega) (by omega)
      refine ⟨r, h1, fun hr => ?_⟩
      have := h2 hr
      rw [drop_at hs0, totZ]
      omega
    · rw [if_neg (by omega)]
      exact ⟨_, rfl, fun h => absurd (of_decide_eq_false h) (by omega)⟩
theorem long14_all (l : List ByteArray) (hs : ∀ s ∈ l, s.size ≤ 140737488351232) : ∃ r, marquetrylaw14_long.f (l.length + 1) l = some r ∧ (r = false → totZ l + l.length ≤ 3000) := by
  obtain ⟨r, h1, h2⟩ := long14 l hs l.length (l.length + 1) 0 0 (by omega) (by omega) (by omega) (by omega)
  refine ⟨r, h1, fun h => ?_⟩
  have := h2 h
  rw [List.drop_zero] at this
  omega
set_option maxRecDepth 100000 in
set_option maxHeartbeats 4000000 in
theorem bk_neg (A : Option Addr) (c : Nat) (l : List ByteArray) (a bb a1 b1 : List Int) (w : World) (hC : Kd.C Kd.string w A l.length l) (hc : l.length ≤ c) (ha : a.length ≤ 3000000) (hbn : bb.length ≤ 3000000) (ha1 : a1 = a ++ [0]) (hb1 : b1 = bb ++ [0]) (hlo : marquetrylaw14_long.f (l.length + 1) l = some false) (hA : strings_Lengths.f l = some (a, 0)) (hB : strings_Prefixes.f l = some (bb, 0)) (hX : strings_ReadLengths.f a (l.length : Int) = some (l, 0)) (hY : strings_ReadPrefixes.f bb (l.length : Int) = some (l, 0)) (hS : marquetrylaw14_same.f (l.length + 1) l l = some true) (hI : strings_ReadLengths.f a1 (l.length : Int) = some ([], 7)) (hJ : strings_ReadPrefixes.f b1 (l.length : Int) = some ([], 7)) (cut : Int) (hn : cut < 0) :
    Calls Try.prog 8 #[.slice A l.length c, .int .i64 cut] w fun e w' => e = .returned (.bool true) ∧ Below w.heap.size w w' := by
  have HC := Aside0.mk hC
  have HLO := Aside0.mk (marquetrylaw14_long.calls (l.length + 1) A c l false w hC hc hlo)
  have HCA := Aside0.mk (fun (W : World) (h : Kd.C Kd.string W A l.length l) => strings_Lengths.calls A c l _ _ W h hc hA)
  have HCB := Aside0.mk (fun (W : World) (h : Kd.C Kd.string W A l.length l) => strings_Prefixes.calls A c l _ _ W h hc hB)
  have HCX := Aside0.mk (fun (W : World) (Az : Option Addr) (cz : Nat) (h : Kd.C (Kd.int .u8) W Az a.length a) (hcz : a.length ≤ cz) => strings_ReadLengths.calls Az cz a _ _ _ W h hcz hX)
  have HCY := Aside0.mk (fun (W : World) (Az : Option Addr) (cz : Nat) (h : Kd.C (Kd.int .u8) W Az bb.length bb) (hcz : bb.length ≤ cz) => strings_ReadPrefixes.calls Az cz bb _ _ _ W h hcz hY)
  have HCI := Aside0.mk (fun (W : World) (Az : Option Addr) (cz : Nat) (h : Kd.C (Kd.int .u8) W Az a1.length a1) (hcz : a1.length ≤ cz) => strings_ReadLengths.calls Az cz a1 _ _ _ W h hcz hI)
  have HCJ := Aside0.mk (fun (W : World) (Az : Option Addr) (cz : Nat) (h : Kd.C (Kd.int .u8) W Az b1.length b1) (hcz : b1.length ≤ cz) => strings_ReadPrefixes.calls Az cz b1 _ _ _ W h hcz hJ)
  have HCS := Aside0.mk (fun (W : World) (Az : Option Addr) (cz : Nat) (h : Kd.C Kd.string W Az l.length l) (hcz : l.length ≤ cz) (h2 : Kd.C Kd.string W A l.length l) => marquetrylaw14_same.calls (l.length + 1) Az cz l A c l true W h hcz h2 hc hS)
  have HA1 := Aside0.mk ha1
  have HB1e := Aside0.mk hb1
  have q0 : decide (cut ≥ 0) = false := decide_eq_false (by omega)
  clear hC ha1 hb1 hlo hA hB hX hY hS hI hJ hn
  go_enter Try.func8, Try.ntmps8
  go_wp2_with fail
  refine HLO.out.mono ?_
  rintro e W0 ⟨rfl, ⟨nd, hnd⟩⟩
  have HB0 := Aside0.mk (show Below w.heap.size w W0 from (by rw [hnd]; exact pw_below_drewN (Below.refl _ _) _))
  clear hnd
  go_wp2_with fail
  refine (HCA.out _ (Kd.C_below HC.out HB0.out)).mono ?_
  rintro e W1 ⟨v1, rfl, hR1, hb1⟩
  obtain ⟨Aa, ca, rfl, hca, hC1⟩ := Kd.R_reads hR1
  have HB1 := Aside0.mk (below_then HB0.out HB0.out.size hb1)
  have HA1c := Aside0.mk hC1
  clear hR1 hb1 hC1 HB0
  go_wp2_with fail
  refine (HCB.out _ (Kd.C_below HC.out HB1.out)).mono ?_
  rintro e W2 ⟨v2, rfl, hR2, hb2⟩
  obtain ⟨Ab, cb, rfl, hcb, hC2⟩ := Kd.R_reads hR2
  have HB2 := Aside0.mk (below_then HB1.out HB1.out.size hb2)
  have HA2c := Aside0.mk (Kd.C_below HA1c.out hb2)
  have HZ2c := Aside0.mk hC2
  clear hR2 hb2 hC2 HB1 HA1c
  go_wp2_with fail
  refine (HCX.out _ _ _ HA2c.out hca).mono ?_
  rintro e W3 ⟨v3, rfl, hR3, hb3⟩
  obtain ⟨Ax, cx, rfl, hcx, hC3⟩ := Kd.R_reads hR3
  have HB3 := Aside0.mk (below_then HB2.out HB2.out.size hb3)
  have HA3c := Aside0.mk (Kd.C_below HA2c.out hb3)
  have HZ3c := Aside0.mk (Kd.C_below HZ2c.out hb3)
  have HX3c := Aside0.mk hC3
  clear hR3 hb3 hC3 HB2 HA2c HZ2c
  go_wp2_with fail
  refine (HCY.out _ _ _ HZ3c.out hcb).mono ?_
  rintro e W4 ⟨v4, rfl, hR4, hb4⟩
  obtain ⟨Ay, cy, rfl, hcy, hC4⟩ := Kd.R_reads hR4
  have HW4 := Aside0.mk (below_then HB3.out HB3.out.size hb4)
  have HA := Aside0.mk (Kd.C_below HA3c.out hb4)
  have HZ := Aside0.mk (Kd.C_below HZ3c.out hb4)
  have HX := Aside0.mk (Kd.C_below HX3c.out hb4)
  have HY := Aside0.mk hC4
  have HL4 := Aside0.mk (Kd.C_below HC.out HW4.out)
  have HB4 := Aside0.mk (Below.refl W4.heap.size W4)
  clear hR4 hb4 hC4 HB3 HA3c HZ3c HX3c
  go_wp2_with fail
  refine (num14_same _ _).mono ?_
  rintro e W5 ⟨rfl, ⟨nd, hnd⟩⟩
  have HB5 := Aside0.mk (show Below W4.heap.size W4 W5 from (by rw [hnd]; exact pw_below_drewN HB4.out _))
  clear hnd HB4
  go_wp2_with fail
  refine (num14_same _ _).mono ?_
  rintro e W6 ⟨rfl, ⟨nd, hnd⟩⟩
  have HB6 := Aside0.mk (show Below W4.heap.size W4 W6 from (by rw [hnd]; exact pw_below_drewN HB5.out _))
  clear hnd HB5
  go_wp2_with fail
  refine (num14_same _ _).mono ?_
  rintro e W7 ⟨rfl, ⟨nd, hnd⟩⟩
  have HB7 := Aside0.mk (show Below W4.heap.size W4 W7 from (by rw [hnd]; exact pw_below_drewN HB6.out _))
  clear hnd HB6
  go_wp2_with fail
  refine (num14_same _ _).mono ?_
  rintro e W8 ⟨rfl, ⟨nd, hnd⟩⟩
  have HB8 := Aside0.mk (show Below W4.heap.size W4 W8 from (by rw [hnd]; exact pw_below_drewN HB7.out _))
  clear hnd HB7
  go_wp2_with fail
  refine (HCS.out _ _ _ (Kd.C_below HX.out HB8.out) hcx (Kd.C_below HL4.out HB8.out)).mono ?_
  rintro e W9 ⟨rfl, ⟨nd, hnd⟩⟩
  have HB9 := Aside0.mk (show Below W4.heap.size W4 W9 from (by rw [hnd]; exact pw_below_drewN HB8.out _))
  clear hnd HB8
  go_wp2_with fail
  refine (HCS.out _ _ _ (Kd.C_below HY.out HB9.out) hcy (Kd.C_below HL4.out HB9.out)).mono ?_
  rintro e W10 ⟨rfl, ⟨nd, hnd⟩⟩
  have HB10 := Aside0.mk (show Below W4.heap.size W4 W10 from (by rw [hnd]; exact pw_below_drewN HB9.out _))
  clear hnd HB9
  have HCp := Aside0.mk (Kd.C_below HA.out HB10.out)
  go_wp2_with (first
    | ((with_reducible refine gate_dst (N := 73) rfl ?_); refine Kd.R_lit (Kd.int .u8) _ 5 ?hg (N := 73) ?hd (xs := ([] : List Int)) (inner := []) (ok := fun _ => True) (okp := fun _ => True) ?hr ?hp (fun _ hk => hk) trivial (Below.refl _ _) (Nat.le_refl _) (by simp) ?_; (case hd => rfl); (case hg => rfl); (case hr => first | (go_simp; done) | (go_simp; rfl)); (case hp => exact (Reps.none _ _)); intro u1 w1 ho1 hb1 hg_ hnew_; clear hg_ hnew_; have HO1 := Aside0.mk (Kd.own_of_R (enc := Value.int .u8) (h1 := fun _ => rfl) (Kd.R_lower ho1 (Nat.le_refl W10.heap.size))); have HD1 := Aside0.mk hb1; have HC1 := Aside0.mk (Kd.C_below HCp.out hb1); have HS1 := Aside0.mk hb1.size; clear ho1 hb1)
    | ((with_reducible refine gate_builtin (b := .append) (xs := #[.tmp 73, .tmp 74]) rfl ?_); at_builtin; refine print_append_row (w0 := W10) W10.heap.size rfl (.tmp 73) (.tmp 74) 25 5 .u8 1 rfl Try.underlying25 dg_info (by decide) _ [] a Aa a.length ca rfl rfl HO1.out (Kd.reads_of_C HC1.out) HD1.out HS1.out (by simp; omega) ?_; intro u2 w2 ho2 hb2 hg2 hat2; rw [List.nil_append] at ho2; have HO2 := Aside0.mk ho2; have HD2 := Aside0.mk hb2; have HS2 := Aside0.mk hb2.size; clear ho2 hb2 hg2 hat2)
    | ((with_reducible refine gate_builtin (b := .append) (xs := #[.tmp 75, .tmp 76]) rfl ?_); at_builtin; refine print_append_num (w0 := W10) W10.heap.size rfl (.tmp 75) (.tmp 76) 25 5 .u8 1 rfl Try.underlying25 dg_info (by decide) u2 a 0 rfl rfl HO2.out HD2.out HS2.out (by omega) ?_; intro u3 w3 ho3 hb3 hg3 hat3; rw [← HA1.out] at ho3; obtain ⟨At11, ct11, rfl⟩ := own_formD ho3; have HR3 := Aside0.mk (Kd.R_reads' (Kd.R_of_own (enc := Value.int .u8) (h1 := fun _ => rfl) (ok := fun _ => True) ho3 (fun _ _ => trivial))); have HBp11 := Aside0.mk (below_then HB10.out HB10.out.size hb3); clear ho3 hb3 hg3 hat3))
  clear HO2 HO1 HD1 HD2 HS1 HS2 HC1 HCp HB10
  refine (HCI.out _ _ _ HR3.out.2.2 HR3.out.2.1).mono ?_
  rintro e W11 ⟨v11, rfl, hR11, hb11⟩
  obtain ⟨Am11, cm11, rfl, hcm11, hCm11⟩ := Kd.R_reads hR11
  have HB11 := Aside0.mk (below_then HBp11.out HBp11.out.size hb11)
  clear hR11 hb11 hCm11 hcm11 HBp11
  clear HR3
  try rw [show ([] : List ByteArray).length = 0 from rfl]
  have HCp := Aside0.mk (Kd.C_below HZ.out HB11.out)
  go_wp2_with (first
    | ((with_reducible refine gate_dst (N := 84) rfl ?_); refine Kd.R_lit (Kd.int .u8) _ 5 ?hg (N := 84) ?hd (xs := ([] : List Int)) (inner := []) (ok := fun _ => True) (okp := fun _ => True) ?hr ?hp (fun _ hk => hk) trivial (Below.refl _ _) (Nat.le_refl _) (by simp) ?_; (case hd => rfl); (case hg => rfl); (case hr => first | (go_simp; done) | (go_simp; rfl)); (case hp => exact (Reps.none _ _)); intro u1 w1 ho1 hb1 hg_ hnew_; clear hg_ hnew_; have HO1 := Aside0.mk (Kd.own_of_R (enc := Value.int .u8) (h1 := fun _ => rfl) (Kd.R_lower ho1 (Nat.le_refl W11.heap.size))); have HD1 := Aside0.mk hb1; have HC1 := Aside0.mk (Kd.C_below HCp.out hb1); have HS1 := Aside0.mk hb1.size; clear ho1 hb1)
    | ((with_reducible refine gate_builtin (b := .append) (xs := #[.tmp 84, .tmp 85]) rfl ?_); at_builtin; refine print_append_row (w0 := W11) W11.heap.size rfl (.tmp 84) (.tmp 85) 25 5 .u8 1 rfl Try.underlying25 dg_info (by decide) _ [] bb Ab bb.length cb rfl rfl HO1.out (Kd.reads_of_C HC1.out) HD1.out HS1.out (by simp; omega) ?_; intro u2 w2 ho2 hb2 hg2 hat2; rw [List.nil_append] at ho2; have HO2 := Aside0.mk ho2; have HD2 := Aside0.mk hb2; have HS2 := Aside0.mk hb2.size; clear ho2 hb2 hg2 hat2)
    | ((with_reducible refine gate_builtin (b := .append) (xs := #[.tmp 86, .tmp 87]) rfl ?_); at_builtin; refine print_append_num (w0 := W11) W11.heap.size rfl (.tmp 86) (.tmp 87) 25 5 .u8 1 rfl Try.underlying25 dg_info (by decide) u2 bb 0 rfl rfl HO2.out HD2.out HS2.out (by omega) ?_; intro u3 w3 ho3 hb3 hg3 hat3; rw [← HB1e.out] at ho3; obtain ⟨At12, ct12, rfl⟩ := own_formD ho3; have HR3 := Aside0.mk (Kd.R_reads' (Kd.R_of_own (enc := Value.int .u8) (h1 := fun _ => rfl) (ok := fun _ => True) ho3 (fun _ _ => trivial))); have HBp12 := Aside0.mk (below_then HB11.out HB11.out.size hb3); clear ho3 hb3 hg3 hat3))
  clear HO2 HO1 HD1 HD2 HS1 HS2 HC1 HCp HB11
  refine (HCJ.out _ _ _ HR3.out.2.2 HR3.out.2.1).mono ?_
  rintro e W12 ⟨v12, rfl, hR12, hb12⟩
  obtain ⟨Am12, cm12, rfl, hcm12, hCm12⟩ := Kd.R_reads hR12
  have HB12 := Aside0.mk (below_then HBp12.out HBp12.out.size hb12)
  clear hR12 hb12 hCm12 hcm12 HBp12
  clear HR3
  try rw [show ([] : List ByteArray).length = 0 from rfl]
  go_wp2_with fail
  refine (num14_same _ _).mono ?_
  rintro e W13 ⟨rfl, ⟨nd, hnd⟩⟩
  have HB13 := Aside0.mk (show Below W4.heap.size W4 W13 from (by rw [hnd]; exact pw_below_drewN HB12.out _))
  clear hnd HB12
  go_wp2_with fail
  refine (num14_same _ _).mono ?_
  rintro e W14 ⟨rfl, ⟨nd, hnd⟩⟩
  have HB14 := Aside0.mk (show Below W4.heap.size W4 W14 from (by rw [hnd]; exact pw_below_drewN HB13.out _))
  clear hnd HB13
  go_wp2_with fail
  refine (works14_true _).mono ?_
  rintro e Wz ⟨rfl, hbz⟩
  have HBz := Aside0.mk (below_then HW4.out HW4.out.size (below_then HB14.out HB14.out.size hbz))
  clear hbz
  go_wp2
  go_ret
  exact ⟨rfl, HBz.out⟩
set_option maxRecDepth 100000 in
set_option maxHeartbeats 4000000 in
theorem bk_ii (A : Option Addr) (c : Nat) (l : List ByteArray) (a bb a1 b1 : List Int) (w : World) (hC : Kd.C Kd.string w A l.length l) (hc : l.length ≤ c) (ha : a.length ≤ 3000000) (hbn : bb.length ≤ 3000000) (ha1 : a1 = a ++ [0]) (hb1 : b1 = bb ++ [0]) (hlo : marquetrylaw14_long.f (l.length + 1) l = some false) (hA : strings_Lengths.f l = some (a, 0)) (hB : strings_Prefixes.f l = some (bb, 0)) (hX : strings_ReadLengths.f a (l.length : Int) = some (l, 0)) (hY : strings_ReadPrefixes.f bb (l.length : Int) = some (l, 0)) (hS : marquetrylaw14_same.f (l.length + 1) l l = some true) (hI : strings_ReadLengths.f a1 (l.length : Int) = some ([], 7)) (hJ : strings_ReadPrefixes.f b1 (l.length : Int) = some ([], 7)) (n : Nat) (p : List Int) (hp : p = a.take n) (hna : n < a.length) (hK : strings_ReadLengths.f p (l.length : Int) = some ([], 6)) (q : List Int) (hq : q = bb.take n) (hnb : n < bb.length) (hL : strings_ReadPrefixes.f q (l.length : Int) = some ([], 6)) :
    Calls Try.prog 8 #[.slice A l.length c, .int .i64 (n : Int)] w fun e w' => e = .returned (.bool true) ∧ Below w.heap.size w w' := by
  have HC := Aside0.mk hC
  have HLO := Aside0.mk (marquetrylaw14_long.calls (l.length + 1) A c l false w hC hc hlo)
  have HCA := Aside0.mk (fun (W : World) (h : Kd.C Kd.string W A l.length l) => strings_Lengths.calls A c l _ _ W h hc hA)
  have HCB := Aside0.mk (fun (W : World) (h : Kd.C Kd.string W A l.length l) => strings_Prefixes.calls A c l _ _ W h hc hB)
  have HCX := Aside0.mk (fun (W : World) (Az : Option Addr) (cz : Nat) (h : Kd.C (Kd.int .u8) W Az a.length a) (hcz : a.length ≤ cz) => strings_ReadLengths.calls Az cz a _ _ _ W h hcz hX)
  have HCY := Aside0.mk (fun (W : World) (Az : Option Addr) (cz : Nat) (h : Kd.C (Kd.int .u8) W Az bb.length bb) (hcz : bb.length ≤ cz) => strings_ReadPrefixes.calls Az cz bb _ _ _ W h hcz hY)
  have HCI := Aside0.mk (fun (W : World) (Az : Option Addr) (cz : Nat) (h : Kd.C (Kd.int .u8) W Az a1.length a1) (hcz : a1.length ≤ cz) => strings_ReadLengths.calls Az cz a1 _ _ _ W h hcz hI)
  have HCJ := Aside0.mk (fun (W : World) (Az : Option Addr) (cz : Nat) (h : Kd.C (Kd.int .u8) W Az b1.length b1) (hcz : b1.length ≤ cz) => strings_ReadPrefixes.calls Az cz b1 _ _ _ W h hcz hJ)
  have HCS := Aside0.mk (fun (W : World) (Az : Option Addr) (cz : Nat) (h : Kd.C Kd.string W Az l.length l) (hcz : l.length ≤ cz) (h2 : Kd.C Kd.string W A l.length l) => marquetrylaw14_same.calls (l.length + 1) Az cz l A c l true W h hcz h2 hc hS)
  have HA1 := Aside0.mk ha1
  have HB1e := Aside0.mk hb1
  have q0 : decide ((n : Int) ≥ 0) = true := decide_eq_true (by omega)
  have qa : decide ((n : Int) < (a.length : Int)) = true := decide_eq_true (by omega)
  have qb : decide ((n : Int) < (bb.length : Int)) = true := decide_eq_true (by omega)
  have qa2 : decide (n < a.length) = true := decide_eq_true (by omega)
  have qb2 : decide (n < bb.length) = true := decide_eq_true (by omega)
  have HCK := Aside0.mk (fun (W : World) (Az : Option Addr) (cz : Nat) (h : Kd.C (Kd.int .u8) W Az p.length p) (hcz : p.length ≤ cz) => strings_ReadLengths.calls Az cz p _ _ _ W h hcz hK)
  have HP := Aside0.mk hp
  have HPn := Aside0.mk hna
  have HCL := Aside0.mk (fun (W : World) (Az : Option Addr) (cz : Nat) (h : Kd.C (Kd.int .u8) W Az q.length q) (hcz : q.length ≤ cz) => strings_ReadPrefixes.calls Az cz q _ _ _ W h hcz hL)
  have HQ := Aside0.mk hq
  have HQn := Aside0.mk hnb
  clear hC ha1 hb1 hlo hA hB hX hY hS hI hJ hna hnb hp hK hq hL
  go_enter Try.func8, Try.ntmps8
  go_wp2_with fail
  refine HLO.out.mono ?_
  rintro e W0 ⟨rfl, ⟨nd, hnd⟩⟩
  have HB0 := Aside0.mk (show Below w.heap.size w W0 from (by rw [hnd]; exact pw_below_drewN (Below.refl _ _) _))
  clear hnd
  go_wp2_with fail
  refine (HCA.out _ (Kd.C_below HC.out HB0.out)).mono ?_
  rintro e W1 ⟨v1, rfl, hR1, hb1⟩
  obtain ⟨Aa, ca, rfl, hca, hC1⟩ := Kd.R_reads hR1
  have HB1 := Aside0.mk (below_then HB0.out HB0.out.size hb1)
  have HA1c := Aside0.mk hC1
  clear hR1 hb1 hC1 HB0
  go_wp2_with fail
  refine (HCB.out _ (Kd.C_below HC.out HB1.out)).mono ?_
  rintro e W2 ⟨v2, rfl, hR2, hb2⟩
  obtain ⟨Ab, cb, rfl, hcb, hC2⟩ := Kd.R_reads hR2
  have HB2 := Aside0.mk (below_then HB1.out HB1.out.size hb2)
  have HA2c := Aside0.mk (Kd.C_below HA1c.out hb2)
  have HZ2c := Aside0.mk hC2
  clear hR2 hb2 hC2 HB1 HA1c
  go_wp2_with fail
  refine (HCX.out _ _ _ HA2c.out hca).mono ?_
  rintro e W3 ⟨v3, rfl, hR3, hb3⟩
  obtain ⟨Ax, cx, rfl, hcx, hC3⟩ := Kd.R_reads hR3
  have HB3 := Aside0.mk (below_then HB2.out HB2.out.size hb3)
  have HA3c := Aside0.mk (Kd.C_below HA2c.out hb3)
  have HZ3c := Aside0.mk (Kd.C_below HZ2c.out hb3)
  have HX3c := Aside0.mk hC3
  clear hR3 hb3 hC3 HB2 HA2c HZ2c
  go_wp2_with fail
  refine (HCY.out _ _ _ HZ3c.out hcb).mono ?_
  rintro e W4 ⟨v4, rfl, hR4, hb4⟩
  obtain ⟨Ay, cy, rfl, hcy, hC4⟩ := Kd.R_reads hR4
  have HW4 := Aside0.mk (below_then HB3.out HB3.out.size hb4)
  have HA := Aside0.mk (Kd.C_below HA3c.out hb4)
  have HZ := Aside0.mk (Kd.C_below HZ3c.out hb4)
  have HX := Aside0.mk (Kd.C_below HX3c.out hb4)
  have HY := Aside0.mk hC4
  have HL4 := Aside0.mk (Kd.C_below HC.out HW4.out)
  have HB4 := Aside0.mk (Below.refl W4.heap.size W4)
  clear hR4 hb4 hC4 HB3 HA3c HZ3c HX3c
  go_wp2_with fail
  refine (num14_same _ _).mono ?_
  rintro e W5 ⟨rfl, ⟨nd, hnd⟩⟩
  have HB5 := Aside0.mk (show Below W4.heap.size W4 W5 from (by rw [hnd]; exact pw_below_drewN HB4.out _))
  clear hnd HB4
  go_wp2_with fail
  refine (num14_same _ _).mono ?_
  rintro e W6 ⟨rfl, ⟨nd, hnd⟩⟩
  have HB6 := Aside0.mk (show Below W4.heap.size W4 W6 from (by rw [hnd]; exact pw_below_drewN HB5.out _))
  clear hnd HB5
  go_wp2_with fail
  refine (num14_same _ _).mono ?_
  rintro e W7 ⟨rfl, ⟨nd, hnd⟩⟩
  have HB7 := Aside0.mk (show Below W4.heap.size W4 W7 from (by rw [hnd]; exact pw_below_drewN HB6.out _))
  clear hnd HB6
  go_wp2_with fail
  refine (num14_same _ _).mono ?_
  rintro e W8 ⟨rfl, ⟨nd, hnd⟩⟩
  have HB8 := Aside0.mk (show Below W4.heap.size W4 W8 from (by rw [hnd]; exact pw_below_drewN HB7.out _))
  clear hnd HB7
  go_wp2_with fail
  refine (HCS.out _ _ _ (Kd.C_below HX.out HB8.out) hcx (Kd.C_below HL4.out HB8.out)).mono ?_
  rintro e W9 ⟨rfl, ⟨nd, hnd⟩⟩
  have HB9 := Aside0.mk (show Below W4.heap.size W4 W9 from (by rw [hnd]; exact pw_below_drewN HB8.out _))
  clear hnd HB8
  go_wp2_with fail
  refine (HCS.out _ _ _ (Kd.C_below HY.out HB9.out) hcy (Kd.C_below HL4.out HB9.out)).mono ?_
  rintro e W10 ⟨rfl, ⟨nd, hnd⟩⟩
  have HB10 := Aside0.mk (show Below W4.heap.size W4 W10 from (by rw [hnd]; exact pw_below_drewN HB9.out _))
  clear hnd HB9
  have HCp := Aside0.mk (Kd.C_below HA.out HB10.out)
  go_wp2_with (first
    | ((with_reducible refine gate_dst (N := 73) rfl ?_); refine Kd.R_lit (Kd.int .u8) _ 5 ?hg (N := 73) ?hd (xs := ([] : List Int)) (inner := []) (ok := fun _ => True) (okp := fun _ => True) ?hr ?hp (fun _ hk => hk) trivial (Below.refl _ _) (Nat.le_refl _) (by simp) ?_; (case hd => rfl); (case hg => rfl); (case hr => first | (go_simp; done) | (go_simp; rfl)); (case hp => exact (Reps.none _ _)); intro u1 w1 ho1 hb1 hg_ hnew_; clear hg_ hnew_; have HO1 := Aside0.mk (Kd.own_of_R (enc := Value.int .u8) (h1 := fun _ => rfl) (Kd.R_lower ho1 (Nat.le_refl W10.heap.size))); have HD1 := Aside0.mk hb1; have HC1 := Aside0.mk (Kd.C_below HCp.out hb1); have HS1 := Aside0.mk hb1.size; clear ho1 hb1)
    | ((with_reducible refine gate_builtin (b := .append) (xs := #[.tmp 73, .tmp 74]) rfl ?_); at_builtin; refine print_append_row (w0 := W10) W10.heap.size rfl (.tmp 73) (.tmp 74) 25 5 .u8 1 rfl Try.underlying25 dg_info (by decide) _ [] a Aa a.length ca rfl rfl HO1.out (Kd.reads_of_C HC1.out) HD1.out HS1.out (by simp; omega) ?_; intro u2 w2 ho2 hb2 hg2 hat2; rw [List.nil_append] at ho2; have HO2 := Aside0.mk ho2; have HD2 := Aside0.mk hb2; have HS2 := Aside0.mk hb2.size; clear ho2 hb2 hg2 hat2)
    | ((with_reducible refine gate_builtin (b := .append) (xs := #[.tmp 75, .tmp 76]) rfl ?_); at_builtin; refine print_append_num (w0 := W10) W10.heap.size rfl (.tmp 75) (.tmp 76) 25 5 .u8 1 rfl Try.underlying25 dg_info (by decide) u2 a 0 rfl rfl HO2.out HD2.out HS2.out (by omega) ?_; intro u3 w3 ho3 hb3 hg3 hat3; rw [← HA1.out] at ho3; obtain ⟨At11, ct11, rfl⟩ := own_formD ho3; have HR3 := Aside0.mk (Kd.R_reads' (Kd.R_of_own (enc := Value.int .u8) (h1 := fun _ => rfl) (ok := fun _ => True) ho3 (fun _ _ => trivial))); have HBp11 := Aside0.mk (below_then HB10.out HB10.out.size hb3); clear ho3 hb3 hg3 hat3))
  clear HO2 HO1 HD1 HD2 HS1 HS2 HC1 HCp HB10
  refine (HCI.out _ _ _ HR3.out.2.2 HR3.out.2.1).mono ?_
  rintro e W11 ⟨v11, rfl, hR11, hb11⟩
  obtain ⟨Am11, cm11, rfl, hcm11, hCm11⟩ := Kd.R_reads hR11
  have HB11 := Aside0.mk (below_then HBp11.out HBp11.out.size hb11)
  clear hR11 hb11 hCm11 hcm11 HBp11
  clear HR3
  try rw [show ([] : List ByteArray).length = 0 from rfl]
  have HCp := Aside0.mk (Kd.C_below HZ.out HB11.out)
  go_wp2_with (first
    | ((with_reducible refine gate_dst (N := 84) rfl ?_); refine Kd.R_lit (Kd.int .u8) _ 5 ?hg (N := 84) ?hd (xs := ([] : List Int)) (inner := []) (ok := fun _ => True) (okp := fun _ => True) ?hr ?hp (fun _ hk => hk) trivial (Below.refl _ _) (Nat.le_refl _) (by simp) ?_; (case hd => rfl); (case hg => rfl); (case hr => first | (go_simp; done) | (go_simp; rfl)); (case hp => exact (Reps.none _ _)); intro u1 w1 ho1 hb1 hg_ hnew_; clear hg_ hnew_; have HO1 := Aside0.mk (Kd.own_of_R (enc := Value.int .u8) (h1 := fun _ => rfl) (Kd.R_lower ho1 (Nat.le_refl W11.heap.size))); have HD1 := Aside0.mk hb1; have HC1 := Aside0.mk (Kd.C_below HCp.out hb1); have HS1 := Aside0.mk hb1.size; clear ho1 hb1)
    | ((with_reducible refine gate_builtin (b := .append) (xs := #[.tmp 84, .tmp 85]) rfl ?_); at_builtin; refine print_append_row (w0 := W11) W11.heap.size rfl (.tmp 84) (.tmp 85) 25 5 .u8 1 rfl Try.underlying25 dg_info (by decide) _ [] bb Ab bb.length cb rfl rfl HO1.out (Kd.reads_of_C HC1.out) HD1.out HS1.out (by simp; omega) ?_; intro u2 w2 ho2 hb2 hg2 hat2; rw [List.nil_append] at ho2; have HO2 := Aside0.mk ho2; have HD2 := Aside0.mk hb2; have HS2 := Aside0.mk hb2.size; clear ho2 hb2 hg2 hat2)
    | ((with_reducible refine gate_builtin (b := .append) (xs := #[.tmp 86, .tmp 87]) rfl ?_); at_builtin; refine print_append_num (w0 := W11) W11.heap.size rfl (.tmp 86) (.tmp 87) 25 5 .u8 1 rfl Try.underlying25 dg_info (by decide) u2 bb 0 rfl rfl HO2.out HD2.out HS2.out (by omega) ?_; intro u3 w3 ho3 hb3 hg3 hat3; rw [← HB1e.out] at ho3; obtain ⟨At12, ct12, rfl⟩ := own_formD ho3; have HR3 := Aside0.mk (Kd.R_reads' (Kd.R_of_own (enc := Value.int .u8) (h1 := fun _ => rfl) (ok := fun _ => True) ho3 (fun _ _ => trivial))); have HBp12 := Aside0.mk (below_then HB11.out HB11.out.size hb3); clear ho3 hb3 hg3 hat3))
  clear HO2 HO1 HD1 HD2 HS1 HS2 HC1 HCp HB11
  refine (HCJ.out _ _ _ HR3.out.2.2 HR3.out.2.1).mono ?_
  rintro e W12 ⟨v12, rfl, hR12, hb12⟩
  obtain ⟨Am12, cm12, rfl, hcm12, hCm12⟩ := Kd.R_reads hR12
  have HB12 := Aside0.mk (below_then HBp12.out HBp12.out.size hb12)
  clear hR12 hb12 hCm12 hcm12 HBp12
  clear HR3
  try rw [show ([] : List ByteArray).length = 0 from rfl]
  go_wp2_with fail
  refine (num14_same _ _).mono ?_
  rintro e W13 ⟨rfl, ⟨nd, hnd⟩⟩
  have HB13 := Aside0.mk (show Below W4.heap.size W4 W13 from (by rw [hnd]; exact pw_below_drewN HB12.out _))
  clear hnd HB12
  go_wp2_with fail
  refine (num14_same _ _).mono ?_
  rintro e W14 ⟨rfl, ⟨nd, hnd⟩⟩
  have HB14 := Aside0.mk (show Below W4.heap.size W4 W14 from (by rw [hnd]; exact pw_below_drewN HB13.out _))
  clear hnd HB13
  obtain ⟨i0, hi0, _, hsz, _⟩ := info_parts info5
  obtain ⟨htake, hTd, hT1⟩ := print_take_of (P := Try.prog) (Value.int .u8) 0 25 5 .i64 Try.underlying25 hi0 hsz Aa ca a n (by omega) (by have := HPn.out; omega) hca
  rw [Int.toNat_natCast, ← HP.out] at htake hTd hT1
  have HTC := Aside0.mk (show Kd.C (Kd.int .u8) W14 Aa p.length p from Kd.C_of_reads (h1 := fun _ => rfl) (hTd _ (Kd.reads_of_C (Kd.C_below HA.out HB14.out))))
  have HTL := Aside0.mk (show p.length ≤ ca from by have h0 := HP.out; rw [h0, List.length_take]; omega)
  have HBp15 := HB14
  clear hTd hT1 hi0 hsz
  go_wp2_with fail
  refine (HCK.out _ _ _ HTC.out HTL.out).mono ?_
  rintro e W15 ⟨v15, rfl, hR15, hb15⟩
  obtain ⟨Am15, cm15, rfl, hcm15, hCm15⟩ := Kd.R_reads hR15
  have HB15 := Aside0.mk (below_then HBp15.out HBp15.out.size hb15)
  clear hR15 hb15 hCm15 hcm15 HBp15
  clear HTC HTL htake HB14
  try rw [show ([] : List ByteArray).length = 0 from rfl]
  go_wp2_with fail
  refine (num14_same _ _).mono ?_
  rintro e W16 ⟨rfl, ⟨nd, hnd⟩⟩
  have HB16 := Aside0.mk (show Below W4.heap.size W4 W16 from (by rw [hnd]; exact pw_below_drewN HB15.out _))
  clear hnd HB15
  obtain ⟨i0, hi0, _, hsz, _⟩ := info_parts info5
  obtain ⟨htake, hTd, hT1⟩ := print_take_of (P := Try.prog) (Value.int .u8) 0 25 5 .i64 Try.underlying25 hi0 hsz Ab cb bb n (by omega) (by have := HQn.out; omega) hcb
  rw [Int.toNat_natCast, ← HQ.out] at htake hTd hT1
  have HTC := Aside0.mk (show Kd.C (Kd.int .u8) W16 Ab q.length q from Kd.C_of_reads (h1 := fun _ => rfl) (hTd _ (Kd.reads_of_C (Kd.C_below HZ.out HB16.out))))
  have HTL := Aside0.mk (show q.length ≤ cb from by have h0 := HQ.out; rw [h0, List.length_take]; omega)
  have HBp17 := HB16
  clear hTd hT1 hi0 hsz
  go_wp2_with fail
  refine (HCL.out _ _ _ HTC.out HTL.out).mono ?_
  rintro e W17 ⟨v17, rfl, hR17, hb17⟩
  obtain ⟨Am17, cm17, rfl, hcm17, hCm17⟩ := Kd.R_reads hR17
  have HB17 := Aside0.mk (below_then HBp17.out HBp17.out.size hb17)
  clear hR17 hb17 hCm17 hcm17 HBp17
  clear HTC HTL htake HB16
  try rw [show ([] : List ByteArray).length = 0 from rfl]
  go_wp2_with fail
  refine (num14_same _ _).mono ?_
  rintro e W18 ⟨rfl, ⟨nd, hnd⟩⟩
  have HB18 := Aside0.mk (show Below W4.heap.size W4 W18 from (by rw [hnd]; exact pw_below_drewN HB17.out _))
  clear hnd HB17
  go_wp2_with fail
  refine (works14_true _).mono ?_
  rintro e Wz ⟨rfl, hbz⟩
  have HBz := Aside0.mk (below_then HW4.out HW4.out.size (below_then HB18.out HB18.out.size hbz))
  clear hbz
  go_wp2
  go_ret
  exact ⟨rfl, HBz.out⟩
set_option maxRecDepth 100000 in
set_option maxHeartbeats 4000000 in
theorem bk_io (A : Option Addr) (c : Nat) (l : List ByteArray) (a bb a1 b1 : List Int) (w : World) (hC : Kd.C Kd.string w A l.length l) (hc : l.length ≤ c) (ha : a.length ≤ 3000000) (hbn : bb.length ≤ 3000000) (ha1 : a1 = a ++ [0]) (hb1 : b1 = bb ++ [0]) (hlo : marquetrylaw14_long.f (l.length + 1) l = some false) (hA : strings_Lengths.f l = some (a, 0)) (hB : strings_Prefixes.f l = some (bb, 0)) (hX : strings_ReadLengths.f a (l.length : Int) = some (l, 0)) (hY : strings_ReadPrefixes.f bb (l.length : Int) = some (l, 0)) (hS : marquetrylaw14_same.f (l.length + 1) l l = some true) (hI : strings_ReadLengths.f a1 (l.length : Int) = some ([], 7)) (hJ : strings_ReadPrefixes.f b1 (l.length : Int) = some ([], 7)) (n : Nat) (p : List Int) (hp : p = a.take n) (hna : n < a.length) (hK : strings_ReadLengths.f p (l.length : Int) = some ([], 6)) (hnb : bb.length ≤ n) :
    Calls Try.prog 8 #[.slice A l.length c, .int .i64 (n : Int)] w fun e w' => e = .returned (.bool true) ∧ Below w.heap.size w w' := by
  have HC := Aside0.mk hC
  have HLO := Aside0.mk (marquetrylaw14_long.calls (l.length + 1) A c l false w hC hc hlo)
  have HCA := Aside0.mk (fun (W : World) (h : Kd.C Kd.string W A l.length l) => strings_Lengths.calls A c l _ _ W h hc hA)
  have HCB := Aside0.mk (fun (W : World) (h : Kd.C Kd.string W A l.length l) => strings_Prefixes.calls A c l _ _ W h hc hB)
  have HCX := Aside0.mk (fun (W : World) (Az : Option Addr) (cz : Nat) (h : Kd.C (Kd.int .u8) W Az a.length a) (hcz : a.length ≤ cz) => strings_ReadLengths.calls Az cz a _ _ _ W h hcz hX)
  have HCY := Aside0.mk (fun (W : World) (Az : Option Addr) (cz : Nat) (h : Kd.C (Kd.int .u8) W Az bb.length bb) (hcz : bb.length ≤ cz) => strings_ReadPrefixes.calls Az cz bb _ _ _ W h hcz hY)
  have HCI := Aside0.mk (fun (W : World) (Az : Option Addr) (cz : Nat) (h : Kd.C (Kd.int .u8) W Az a1.length a1) (hcz : a1.length ≤ cz) => strings_ReadLengths.calls Az cz a1 _ _ _ W h hcz hI)
  have HCJ := Aside0.mk (fun (W : World) (Az : Option Addr) (cz : Nat) (h : Kd.C (Kd.int .u8) W Az b1.length b1) (hcz : b1.length ≤ cz) => strings_ReadPrefixes.calls Az cz b1 _ _ _ W h hcz hJ)
  have HCS := Aside0.mk (fun (W : World) (Az : Option Addr) (cz : Nat) (h : Kd.C Kd.string W Az l.length l) (hcz : l.length ≤ cz) (h2 : Kd.C Kd.string W A l.length l) => marquetrylaw14_same.calls (l.length + 1) Az cz l A c l true W h hcz h2 hc hS)
  have HA1 := Aside0.mk ha1
  have HB1e := Aside0.mk hb1
  have q0 : decide ((n : Int) ≥ 0) = true := decide_eq_true (by omega)
  have qa : decide ((n : Int) < (a.length : Int)) = true := decide_eq_true (by omega)
  have qb : decide ((n : Int) < (bb.length : Int)) = false := decide_eq_false (by omega)
  have qa2 : decide (n < a.length) = true := decide_eq_true (by omega)
  have qb2 : decide (n < bb.length) = false := decide_eq_false (by omega)
  have HCK := Aside0.mk (fun (W : World) (Az : Option Addr) (cz : Nat) (h : Kd.C (Kd.int .u8) W Az p.length p) (hcz : p.length ≤ cz) => strings_ReadLengths.calls Az cz p _ _ _ W h hcz hK)
  have HP := Aside0.mk hp
  have HPn := Aside0.mk hna
  clear hC ha1 hb1 hlo hA hB hX hY hS hI hJ hna hnb hp hK
  go_enter Try.func8, Try.ntmps8
  go_wp2_with fail
  refine HLO.out.mono ?_
  rintro e W0 ⟨rfl, ⟨nd, hnd⟩⟩
  have HB0 := Aside0.mk (show Below w.heap.size w W0 from (by rw [hnd]; exact pw_below_drewN (Below.refl _ _) _))
  clear hnd
  go_wp2_with fail
  refine (HCA.out _ (Kd.C_below HC.out HB0.out)).mono ?_
  rintro e W1 ⟨v1, rfl, hR1, hb1⟩
  obtain ⟨Aa, ca, rfl, hca, hC1⟩ := Kd.R_reads hR1
  have HB1 := Aside0.mk (below_then HB0.out HB0.out.size hb1)
  have HA1c := Aside0.mk hC1
  clear hR1 hb1 hC1 HB0
  go_wp2_with fail
  refine (HCB.out _ (Kd.C_below HC.out HB1.out)).mono ?_
  rintro e W2 ⟨v2, rfl, hR2, hb2⟩
  obtain ⟨Ab, cb, rfl, hcb, hC2⟩ := Kd.R_reads hR2
  have HB2 := Aside0.mk (below_then HB1.out HB1.out.size hb2)
  have HA2c := Aside0.mk (Kd.C_below HA1c.out hb2)
  have HZ2c := Aside0.mk hC2
  clear hR2 hb2 hC2 HB1 HA1c
  go_wp2_with fail
  refine (HCX.out _ _ _ HA2c.out hca).mono ?_
  rintro e W3 ⟨v3, rfl, hR3, hb3⟩
  obtain ⟨Ax, cx, rfl, hcx, hC3⟩ := Kd.R_reads hR3
  have HB3 := Aside0.mk (below_then HB2.out HB2.out.size hb3)
  have HA3c := Aside0.mk (Kd.C_below HA2c.out hb3)
  have HZ3c := Aside0.mk (Kd.C_below HZ2c.out hb3)
  have HX3c := Aside0.mk hC3
  clear hR3 hb3 hC3 HB2 HA2c HZ2c
  go_wp2_with fail
  refine (HCY.out _ _ _ HZ3c.out hcb).mono ?_
  rintro e W4 ⟨v4, rfl, hR4, hb4⟩
  obtain ⟨Ay, cy, rfl, hcy, hC4⟩ := Kd.R_reads hR4
  have HW4 := Aside0.mk (below_then HB3.out HB3.out.size hb4)
  have HA := Aside0.mk (Kd.C_below HA3c.out hb4)
  have HZ := Aside0.mk (Kd.C_below HZ3c.out hb4)
  have HX := Aside0.mk (Kd.C_below HX3c.out hb4)
  have HY := Aside0.mk hC4
  have HL4 := Aside0.mk (Kd.C_below HC.out HW4.out)
  have HB4 := Aside0.mk (Below.refl W4.heap.size W4)
  clear hR4 hb4 hC4 HB3 HA3c HZ3c HX3c
  go_wp2_with fail
  refine (num14_same _ _).mono ?_
  rintro e W5 ⟨rfl, ⟨nd, hnd⟩⟩
  have HB5 := Aside0.mk (show Below W4.heap.size W4 W5 from (by rw [hnd]; exact pw_below_drewN HB4.out _))
  clear hnd HB4
  go_wp2_with fail
  refine (num14_same _ _).mono ?_
  rintro e W6 ⟨rfl, ⟨nd, hnd⟩⟩
  have HB6 := Aside0.mk (show Below W4.heap.size W4 W6 from (by rw [hnd]; exact pw_below_drewN HB5.out _))
  clear hnd HB5
  go_wp2_with fail
  refine (num14_same _ _).mono ?_
  rintro e W7 ⟨rfl, ⟨nd, hnd⟩⟩
  have HB7 := Aside0.mk (show Below W4.heap.size W4 W7 from (by rw [hnd]; exact pw_below_drewN HB6.out _))
  clear hnd HB6
  go_wp2_with fail
  refine (num14_same _ _).mono ?_
  rintro e W8 ⟨rfl, ⟨nd, hnd⟩⟩
  have HB8 := Aside0.mk (show Below W4.heap.size W4 W8 from (by rw [hnd]; exact pw_below_drewN HB7.out _))
  clear hnd HB7
  go_wp2_with fail
  refine (HCS.out _ _ _ (Kd.C_below HX.out HB8.out) hcx (Kd.C_below HL4.out HB8.out)).mono ?_
  rintro e W9 ⟨rfl, ⟨nd, hnd⟩⟩
  have HB9 := Aside0.mk (show Below W4.heap.size W4 W9 from (by rw [hnd]; exact pw_below_drewN HB8.out _))
  clear hnd HB8
  go_wp2_with fail
  refine (HCS.out _ _ _ (Kd.C_below HY.out HB9.out) hcy (Kd.C_below HL4.out HB9.out)).mono ?_
  rintro e W10 ⟨rfl, ⟨nd, hnd⟩⟩
  have HB10 := Aside0.mk (show Below W4.heap.size W4 W10 from (by rw [hnd]; exact pw_below_drewN HB9.out _))
  clear hnd HB9
  have HCp := Aside0.mk (Kd.C_below HA.out HB10.out)
  go_wp2_with (first
    | ((with_reducible refine gate_dst (N := 73) rfl ?_); refine Kd.R_lit (Kd.int .u8) _ 5 ?hg (N := 73) ?hd (xs := ([] : List Int)) (inner := []) (ok := fun _ => True) (okp := fun _ => True) ?hr ?hp (fun _ hk => hk) trivial (Below.refl _ _) (Nat.le_refl _) (by simp) ?_; (case hd => rfl); (case hg => rfl); (case hr => first | (go_simp; done) | (go_simp; rfl)); (case hp => exact (Reps.none _ _)); intro u1 w1 ho1 hb1 hg_ hnew_; clear hg_ hnew_; have HO1 := Aside0.mk (Kd.own_of_R (enc := Value.int .u8) (h1 := fun _ => rfl) (Kd.R_lower ho1 (Nat.le_refl W10.heap.size))); have HD1 := Aside0.mk hb1; have HC1 := Aside0.mk (Kd.C_below HCp.out hb1); have HS1 := Aside0.mk hb1.size; clear ho1 hb1)
    | ((with_reducible refine gate_builtin (b := .append) (xs := #[.tmp 73, .tmp 74]) rfl ?_); at_builtin; refine print_append_row (w0 := W10) W10.heap.size rfl (.tmp 73) (.tmp 74) 25 5 .u8 1 rfl Try.underlying25 dg_info (by decide) _ [] a Aa a.length ca rfl rfl HO1.out (Kd.reads_of_C HC1.out) HD1.out HS1.out (by simp; omega) ?_; intro u2 w2 ho2 hb2 hg2 hat2; rw [List.nil_append] at ho2; have HO2 := Aside0.mk ho2; have HD2 := Aside0.mk hb2; have HS2 := Aside0.mk hb2.size; clear ho2 hb2 hg2 hat2)
    | ((with_reducible refine gate_builtin (b := .append) (xs := #[.tmp 75, .tmp 76]) rfl ?_); at_builtin; refine print_append_num (w0 := W10) W10.heap.size rfl (.tmp 75) (.tmp 76) 25 5 .u8 1 rfl Try.underlying25 dg_info (by decide) u2 a 0 rfl rfl HO2.out HD2.out HS2.out (by omega) ?_; intro u3 w3 ho3 hb3 hg3 hat3; rw [← HA1.out] at ho3; obtain ⟨At11, ct11, rfl⟩ := own_formD ho3; have HR3 := Aside0.mk (Kd.R_reads' (Kd.R_of_own (enc := Value.int .u8) (h1 := fun _ => rfl) (ok := fun _ => True) ho3 (fun _ _ => trivial))); have HBp11 := Aside0.mk (below_then HB10.out HB10.out.size hb3); clear ho3 hb3 hg3 hat3))
  clear HO2 HO1 HD1 HD2 HS1 HS2 HC1 HCp HB10
  refine (HCI.out _ _ _ HR3.out.2.2 HR3.out.2.1).mono ?_
  rintro e W11 ⟨v11, rfl, hR11, hb11⟩
  obtain ⟨Am11, cm11, rfl, hcm11, hCm11⟩ := Kd.R_reads hR11
  have HB11 := Aside0.mk (below_then HBp11.out HBp11.out.size hb11)
  clear hR11 hb11 hCm11 hcm11 HBp11
  clear HR3
  try rw [show ([] : List ByteArray).length = 0 from rfl]
  have HCp := Aside0.mk (Kd.C_below HZ.out HB11.out)
  go_wp2_with (first
    | ((with_reducible refine gate_dst (N := 84) rfl ?_); refine Kd.R_lit (Kd.int .u8) _ 5 ?hg (N := 84) ?hd (xs := ([] : List Int)) (inner := []) (ok := fun _ => True) (okp := fun _ => True) ?hr ?hp (fun _ hk => hk) trivial (Below.refl _ _) (Nat.le_refl _) (by simp) ?_; (case hd => rfl); (case hg => rfl); (case hr => first | (go_simp; done) | (go_simp; rfl)); (case hp => exact (Reps.none _ _)); intro u1 w1 ho1 hb1 hg_ hnew_; clear hg_ hnew_; have HO1 := Aside0.mk (Kd.own_of_R (enc := Value.int .u8) (h1 := fun _ => rfl) (Kd.R_lower ho1 (Nat.le_refl W11.heap.size))); have HD1 := Aside0.mk hb1; have HC1 := Aside0.mk (Kd.C_below HCp.out hb1); have HS1 := Aside0.mk hb1.size; clear ho1 hb1)
    | ((with_reducible refine gate_builtin (b := .append) (xs := #[.tmp 84, .tmp 85]) rfl ?_); at_builtin; refine print_append_row (w0 := W11) W11.heap.size rfl (.tmp 84) (.tmp 85) 25 5 .u8 1 rfl Try.underlying25 dg_info (by decide) _ [] bb Ab bb.length cb rfl rfl HO1.out (Kd.reads_of_C HC1.out) HD1.out HS1.out (by simp; omega) ?_; intro u2 w2 ho2 hb2 hg2 hat2; rw [List.nil_append] at ho2; have HO2 := Aside0.mk ho2; have HD2 := Aside0.mk hb2; have HS2 := Aside0.mk hb2.size; clear ho2 hb2 hg2 hat2)
    | ((with_reducible refine gate_builtin (b := .append) (xs := #[.tmp 86, .tmp 87]) rfl ?_); at_builtin; refine print_append_num (w0 := W11) W11.heap.size rfl (.tmp 86) (.tmp 87) 25 5 .u8 1 rfl Try.underlying25 dg_info (by decide) u2 bb 0 rfl rfl HO2.out HD2.out HS2.out (by omega) ?_; intro u3 w3 ho3 hb3 hg3 hat3; rw [← HB1e.out] at ho3; obtain ⟨At12, ct12, rfl⟩ := own_formD ho3; have HR3 := Aside0.mk (Kd.R_reads' (Kd.R_of_own (enc := Value.int .u8) (h1 := fun _ => rfl) (ok := fun _ => True) ho3 (fun _ _ => trivial))); have HBp12 := Aside0.mk (below_then HB11.out HB11.out.size hb3); clear ho3 hb3 hg3 hat3))
  clear HO2 HO1 HD1 HD2 HS1 HS2 HC1 HCp HB11
  refine (HCJ.out _ _ _ HR3.out.2.2 HR3.out.2.1).mono ?_
  rintro e W12 ⟨v12, rfl, hR12, hb12⟩
  obtain ⟨Am12, cm12, rfl, hcm12, hCm12⟩ := Kd.R_reads hR12
  have HB12 := Aside0.mk (below_then HBp12.out HBp12.out.size hb12)
  clear hR12 hb12 hCm12 hcm12 HBp12
  clear HR3
  try rw [show ([] : List ByteArray).length = 0 from rfl]
  go_wp2_with fail
  refine (num14_same _ _).mono ?_
  rintro e W13 ⟨rfl, ⟨nd, hnd⟩⟩
  have HB13 := Aside0.mk (show Below W4.heap.size W4 W13 from (by rw [hnd]; exact pw_below_drewN HB12.out _))
  clear hnd HB12
  go_wp2_with fail
  refine (num14_same _ _).mono ?_
  rintro e W14 ⟨rfl, ⟨nd, hnd⟩⟩
  have HB14 := Aside0.mk (show Below W4.heap.size W4 W14 from (by rw [hnd]; exact pw_below_drewN HB13.out _))
  clear hnd HB13
  obtain ⟨i0, hi0, _, hsz, _⟩ := info_parts info5
  obtain ⟨htake, hTd, hT1⟩ := print_take_of (P := Try.prog) (Value.int .u8) 0 25 5 .i64 Try.underlying25 hi0 hsz Aa ca a n (by omega) (by have := HPn.out; omega) hca
  rw [Int.toNat_natCast, ← HP.out] at htake hTd hT1
  have HTC := Aside0.mk (show Kd.C (Kd.int .u8) W14 Aa p.length p from Kd.C_of_reads (h1 := fun _ => rfl) (hTd _ (Kd.reads_of_C (Kd.C_below HA.out HB14.out))))
  have HTL := Aside0.mk (show p.length ≤ ca from by have h0 := HP.out; rw [h0, List.length_take]; omega)
  have HBp15 := HB14
  clear hTd hT1 hi0 hsz
  go_wp2_with fail
  refine (HCK.out _ _ _ HTC.out HTL.out).mono ?_
  rintro e W15 ⟨v15, rfl, hR15, hb15⟩
  obtain ⟨Am15, cm15, rfl, hcm15, hCm15⟩ := Kd.R_reads hR15
  have HB15 := Aside0.mk (below_then HBp15.out HBp15.out.size hb15)
  clear hR15 hb15 hCm15 hcm15 HBp15
  clear HTC HTL htake HB14
  try rw [show ([] : List ByteArray).length = 0 from rfl]
  go_wp2_with fail
  refine (num14_same _ _).mono ?_
  rintro e W16 ⟨rfl, ⟨nd, hnd⟩⟩
  have HB16 := Aside0.mk (show Below W4.heap.size W4 W16 from (by rw [hnd]; exact pw_below_drewN HB15.out _))
  clear hnd HB15
  go_wp2_with fail
  refine (works14_true _).mono ?_
  rintro e Wz ⟨rfl, hbz⟩
  have HBz := Aside0.mk (below_then HW4.out HW4.out.size (below_then HB16.out HB16.out.size hbz))
  clear hbz
  go_wp2
  go_ret
  exact ⟨rfl, HBz.out⟩
set_option maxRecDepth 100000 in
set_option maxHeartbeats 4000000 in
theorem bk_oi (A : Option Addr) (c : Nat) (l : List ByteArray) (a bb a1 b1 : List Int) (w : World) (hC : Kd.C Kd.string w A l.length l) (hc : l.length ≤ c) (ha : a.length ≤ 3000000) (hbn : bb.length ≤ 3000000) (ha1 : a1 = a ++ [0]) (hb1 : b1 = bb ++ [0]) (hlo : marquetrylaw14_long.f (l.length + 1) l = some false) (hA : strings_Lengths.f l = some (a, 0)) (hB : strings_Prefixes.f l = some (bb, 0)) (hX : strings_ReadLengths.f a (l.length : Int) = some (l, 0)) (hY : strings_ReadPrefixes.f bb (l.length : Int) = some (l, 0)) (hS : marquetrylaw14_same.f (l.length + 1) l l = some true) (hI : strings_ReadLengths.f a1 (l.length : Int) = some ([], 7)) (hJ : strings_ReadPrefixes.f b1 (l.length : Int) = some ([], 7)) (n : Nat) (hna : a.length ≤ n) (q : List Int) (hq : q = bb.take n) (hnb : n < bb.length) (hL : strings_ReadPrefixes.f q (l.length : Int) = some ([], 6)) :
    Calls Try.prog 8 #[.slice A l.length c, .int .i64 (n : Int)] w fun e w' => e = .returned (.bool true) ∧ Below w.heap.size w w' := by
  have HC := Aside0.mk hC
  have HLO := Aside0.mk (marquetrylaw14_long.calls (l.length + 1) A c l false w hC hc hlo)
  have HCA := Aside0.mk (fun (W : World) (h : Kd.C Kd.string W A l.length l) => strings_Lengths.calls A c l _ _ W h hc hA)
  have HCB := Aside0.mk (fun (W : World) (h : Kd.C Kd.string W A l.length l) => strings_Prefixes.calls A c l _ _ W h hc hB)
  have HCX := Aside0.mk (fun (W : World) (Az : Option Addr) (cz : Nat) (h : Kd.C (Kd.int .u8) W Az a.length a) (hcz : a.length ≤ cz) => strings_ReadLengths.calls Az cz a _ _ _ W h hcz hX)
  have HCY := Aside0.mk (fun (W : World) (Az : Option Addr) (cz : Nat) (h : Kd.C (Kd.int .u8) W Az bb.length bb) (hcz : bb.length ≤ cz) => strings_ReadPrefixes.calls Az cz bb _ _ _ W h hcz hY)
  have HCI := Aside0.mk (fun (W : World) (Az : Option Addr) (cz : Nat) (h : Kd.C (Kd.int .u8) W Az a1.length a1) (hcz : a1.length ≤ cz) => strings_ReadLengths.calls Az cz a1 _ _ _ W h hcz hI)
  have HCJ := Aside0.mk (fun (W : World) (Az : Option Addr) (cz : Nat) (h : Kd.C (Kd.int .u8) W Az b1.length b1) (hcz : b1.length ≤ cz) => strings_ReadPrefixes.calls Az cz b1 _ _ _ W h hcz hJ)
  have HCS := Aside0.mk (fun (W : World) (Az : Option Addr) (cz : Nat) (h : Kd.C Kd.string W Az l.length l) (hcz : l.length ≤ cz) (h2 : Kd.C Kd.string W A l.length l) => marquetrylaw14_same.calls (l.length + 1) Az cz l A c l true W h hcz h2 hc hS)
  have HA1 := Aside0.mk ha1
  have HB1e := Aside0.mk hb1
  have q0 : decide ((n : Int) ≥ 0) = true := decide_eq_true (by omega)
  have qa : decide ((n : Int) < (a.length : Int)) = false := decide_eq_false (by omega)
  have qb : decide ((n : Int) < (bb.length : Int)) = true := decide_eq_true (by omega)
  have qa2 : decide (n < a.length) = false := decide_eq_false (by omega)
  have qb2 : decide (n < bb.length) = true := decide_eq_true (by omega)
  have HCL := Aside0.mk (fun (W : World) (Az : Option Addr) (cz : Nat) (h : Kd.C (Kd.int .u8) W Az q.length q) (hcz : q.length ≤ cz) => strings_ReadPrefixes.calls Az cz q _ _ _ W h hcz hL)
  have HQ := Aside0.mk hq
  have HQn := Aside0.mk hnb
  clear hC ha1 hb1 hlo hA hB hX hY hS hI hJ hna hnb hq hL
  go_enter Try.func8, Try.ntmps8
  go_wp2_with fail
  refine HLO.out.mono ?_
  rintro e W0 ⟨rfl, ⟨nd, hnd⟩⟩
  have HB0 := Aside0.mk (show Below w.heap.size w W0 from (by rw [hnd]; exact pw_below_drewN (Below.refl _ _) _))
  clear hnd
  go_wp2_with fail
  refine (HCA.out _ (Kd.C_below HC.out HB0.out)).mono ?_
  rintro e W1 ⟨v1, rfl, hR1, hb1⟩
  obtain ⟨Aa, ca, rfl, hca, hC1⟩ := Kd.R_reads hR1
  have HB1 := Aside0.mk (below_then HB0.out HB0.out.size hb1)
  have HA1c := Aside0.mk hC1
  clear hR1 hb1 hC1 HB0
  go_wp2_with fail
  refine (HCB.out _ (Kd.C_below HC.out HB1.out)).mono ?_
  rintro e W2 ⟨v2, rfl, hR2, hb2⟩
  obtain ⟨Ab, cb, rfl, hcb, hC2⟩ := Kd.R_reads hR2
  have HB2 := Aside0.mk (below_then HB1.out HB1.out.size hb2)
  have HA2c := Aside0.mk (Kd.C_below HA1c.out hb2)
  have HZ2c := Aside0.mk hC2
  clear hR2 hb2 hC2 HB1 HA1c
  go_wp2_with fail
  refine (HCX.out _ _ _ HA2c.out hca).mono ?_
  rintro e W3 ⟨v3, rfl, hR3, hb3⟩
  obtain ⟨Ax, cx, rfl, hcx, hC3⟩ := Kd.R_reads hR3
  have HB3 := Aside0.mk (below_then HB2.out HB2.out.size hb3)
  have HA3c := Aside0.mk (Kd.C_below HA2c.out hb3)
  have HZ3c := Aside0.mk (Kd.C_below HZ2c.out hb3)
  have HX3c := Aside0.mk hC3
  clear hR3 hb3 hC3 HB2 HA2c HZ2c
  go_wp2_with fail
  refine (HCY.out _ _ _ HZ3c.out hcb).mono ?_
  rintro e W4 ⟨v4, rfl, hR4, hb4⟩
  obtain ⟨Ay, cy, rfl, hcy, hC4⟩ := Kd.R_reads hR4
  have HW4 := Aside0.mk (below_then HB3.out HB3.out.size hb4)
  have HA := Aside0.mk (Kd.C_below HA3c.out hb4)
  have HZ := Aside0.mk (Kd.C_below HZ3c.out hb4)
  have HX := Aside0.mk (Kd.C_below HX3c.out hb4)
  have HY := Aside0.mk hC4
  have HL4 := Aside0.mk (Kd.C_below HC.out HW4.out)
  have HB4 := Aside0.mk (Below.refl W4.heap.size W4)
  clear hR4 hb4 hC4 HB3 HA3c HZ3c HX3c
  go_wp2_with fail
  refine (num14_same _ _).mono ?_
  rintro e W5 ⟨rfl, ⟨nd, hnd⟩⟩
  have HB5 := Aside0.mk (show Below W4.heap.size W4 W5 from (by rw [hnd]; exact pw_below_drewN HB4.out _))
  clear hnd HB4
  go_wp2_with fail
  refine (num14_same _ _).mono ?_
  rintro e W6 ⟨rfl, ⟨nd, hnd⟩⟩
  have HB6 := Aside0.mk (show Below W4.heap.size W4 W6 from (by rw [hnd]; exact pw_below_drewN HB5.out _))
  clear hnd HB5
  go_wp2_with fail
  refine (num14_same _ _).mono ?_
  rintro e W7 ⟨rfl, ⟨nd, hnd⟩⟩
  have HB7 := Aside0.mk (show Below W4.heap.size W4 W7 from (by rw [hnd]; exact pw_below_drewN HB6.out _))
  clear hnd HB6
  go_wp2_with fail
  refine (num14_same _ _).mono ?_
  rintro e W8 ⟨rfl, ⟨nd, hnd⟩⟩
  have HB8 := Aside0.mk (show Below W4.heap.size W4 W8 from (by rw [hnd]; exact pw_below_drewN HB7.out _))
  clear hnd HB7
  go_wp2_with fail
  refine (HCS.out _ _ _ (Kd.C_below HX.out HB8.out) hcx (Kd.C_below HL4.out HB8.out)).mono ?_
  rintro e W9 ⟨rfl, ⟨nd, hnd⟩⟩
  have HB9 := Aside0.mk (show Below W4.heap.size W4 W9 from (by rw [hnd]; exact pw_below_drewN HB8.out _))
  clear hnd HB8
  go_wp2_with fail
  refine (HCS.out _ _ _ (Kd.C_below HY.out HB9.out) hcy (Kd.C_below HL4.out HB9.out)).mono ?_
  rintro e W10 ⟨rfl, ⟨nd, hnd⟩⟩
  have HB10 := Aside0.mk (show Below W4.heap.size W4 W10 from (by rw [hnd]; exact pw_below_drewN HB9.out _))
  clear hnd HB9
  have HCp := Aside0.mk (Kd.C_below HA.out HB10.out)
  go_wp2_with (first
    | ((with_reducible refine gate_dst (N := 73) rfl ?_); refine Kd.R_lit (Kd.int .u8) _ 5 ?hg (N := 73) ?hd (xs := ([] : List Int)) (inner := []) (ok := fun _ => True) (okp := fun _ => True) ?hr ?hp (fun _ hk => hk) trivial (Below.refl _ _) (Nat.le_refl _) (by simp) ?_; (case hd => rfl); (case hg => rfl); (case hr => first | (go_simp; done) | (go_simp; rfl)); (case hp => exact (Reps.none _ _)); intro u1 w1 ho1 hb1 hg_ hnew_; clear hg_ hnew_; have HO1 := Aside0.mk (Kd.own_of_R (enc := Value.int .u8) (h1 := fun _ => rfl) (Kd.R_lower ho1 (Nat.le_refl W10.heap.size))); have HD1 := Aside0.mk hb1; have HC1 := Aside0.mk (Kd.C_below HCp.out hb1); have HS1 := Aside0.mk hb1.size; clear ho1 hb1)
    | ((with_reducible refine gate_builtin (b := .append) (xs := #[.tmp 73, .tmp 74]) rfl ?_); at_builtin; refine print_append_row (w0 := W10) W10.heap.size rfl (.tmp 73) (.tmp 74) 25 5 .u8 1 rfl Try.underlying25 dg_info (by decide) _ [] a Aa a.length ca rfl rfl HO1.out (Kd.reads_of_C HC1.out) HD1.out HS1.out (by simp; omega) ?_; intro u2 w2 ho2 hb2 hg2 hat2; rw [List.nil_append] at ho2; have HO2 := Aside0.mk ho2; have HD2 := Aside0.mk hb2; have HS2 := Aside0.mk hb2.size; clear ho2 hb2 hg2 hat2)
    | ((with_reducible refine gate_builtin (b := .append) (xs := #[.tmp 75, .tmp 76]) rfl ?_); at_builtin; refine print_append_num (w0 := W10) W10.heap.size rfl (.tmp 75) (.tmp 76) 25 5 .u8 1 rfl Try.underlying25 dg_info (by decide) u2 a 0 rfl rfl HO2.out HD2.out HS2.out (by omega) ?_; intro u3 w3 ho3 hb3 hg3 hat3; rw [← HA1.out] at ho3; obtain ⟨At11, ct11, rfl⟩ := own_formD ho3; have HR3 := Aside0.mk (Kd.R_reads' (Kd.R_of_own (enc := Value.int .u8) (h1 := fun _ => rfl) (ok := fun _ => True) ho3 (fun _ _ => trivial))); have HBp11 := Aside0.mk (below_then HB10.out HB10.out.size hb3); clear ho3 hb3 hg3 hat3))
  clear HO2 HO1 HD1 HD2 HS1 HS2 HC1 HCp HB10
  refine (HCI.out _ _ _ HR3.out.2.2 HR3.out.2.1).mono ?_
  rintro e W11 ⟨v11, rfl, hR11, hb11⟩
  obtain ⟨Am11, cm11, rfl, hcm11, hCm11⟩ := Kd.R_reads hR11
  have HB11 := Aside0.mk (below_then HBp11.out HBp11.out.size hb11)
  clear hR11 hb11 hCm11 hcm11 HBp11
  clear HR3
  try rw [show ([] : List ByteArray).length = 0 from rfl]
  have HCp := Aside0.mk (Kd.C_below HZ.out HB11.out)
  go_wp2_with (first
    | ((with_reducible refine gate_dst (N := 84) rfl ?_); refine Kd.R_lit (Kd.int .u8) _ 5 ?hg (N := 84) ?hd (xs := ([] : List Int)) (inner := []) (ok := fun _ => True) (okp := fun _ => True) ?hr ?hp (fun _ hk => hk) trivial (Below.refl _ _) (Nat.le_refl _) (by simp) ?_; (case hd => rfl); (case hg => rfl); (case hr => first | (go_simp; done) | (go_simp; rfl)); (case hp => exact (Reps.none _ _)); intro u1 w1 ho1 hb1 hg_ hnew_; clear hg_ hnew_; have HO1 := Aside0.mk (Kd.own_of_R (enc := Value.int .u8) (h1 := fun _ => rfl) (Kd.R_lower ho1 (Nat.le_refl W11.heap.size))); have HD1 := Aside0.mk hb1; have HC1 := Aside0.mk (Kd.C_below HCp.out hb1); have HS1 := Aside0.mk hb1.size; clear ho1 hb1)
    | ((with_reducible refine gate_builtin (b := .append) (xs := #[.tmp 84, .tmp 85]) rfl ?_); at_builtin; refine print_append_row (w0 := W11) W11.heap.size rfl (.tmp 84) (.tmp 85) 25 5 .u8 1 rfl Try.underlying25 dg_info (by decide) _ [] bb Ab bb.length cb rfl rfl HO1.out (Kd.reads_of_C HC1.out) HD1.out HS1.out (by simp; omega) ?_; intro u2 w2 ho2 hb2 hg2 hat2; rw [List.nil_append] at ho2; have HO2 := Aside0.mk ho2; have HD2 := Aside0.mk hb2; have HS2 := Aside0.mk hb2.size; clear ho2 hb2 hg2 hat2)
    | ((with_reducible refine gate_builtin (b := .append) (xs := #[.tmp 86, .tmp 87]) rfl ?_); at_builtin; refine print_append_num (w0 := W11) W11.heap.size rfl (.tmp 86) (.tmp 87) 25 5 .u8 1 rfl Try.underlying25 dg_info (by decide) u2 bb 0 rfl rfl HO2.out HD2.out HS2.out (by omega) ?_; intro u3 w3 ho3 hb3 hg3 hat3; rw [← HB1e.out] at ho3; obtain ⟨At12, ct12, rfl⟩ := own_formD ho3; have HR3 := Aside0.mk (Kd.R_reads' (Kd.R_of_own (enc := Value.int .u8) (h1 := fun _ => rfl) (ok := fun _ => True) ho3 (fun _ _ => trivial))); have HBp12 := Aside0.mk (below_then HB11.out HB11.out.size hb3); clear ho3 hb3 hg3 hat3))
  clear HO2 HO1 HD1 HD2 HS1 HS2 HC1 HCp HB11
  refine (HCJ.out _ _ _ HR3.out.2.2 HR3.out.2.1).mono ?_
  rintro e W12 ⟨v12, rfl, hR12, hb12⟩
  obtain ⟨Am12, cm12, rfl, hcm12, hCm12⟩ := Kd.R_reads hR12
  have HB12 := Aside0.mk (below_then HBp12.out HBp12.out.size hb12)
  clear hR12 hb12 hCm12 hcm12 HBp12
  clear HR3
  try rw [show ([] : List ByteArray).length = 0 from rfl]
  go_wp2_with fail
  refine (num14_same _ _).mono ?_
  rintro e W13 ⟨rfl, ⟨nd, hnd⟩⟩
  have HB13 := Aside0.mk (show Below W4.heap.size W4 W13 from (by rw [hnd]; exact pw_below_drewN HB12.out _))
  clear hnd HB12
  go_wp2_with fail
  refine (num14_same _ _).mono ?_
  rintro e W14 ⟨rfl, ⟨nd, hnd⟩⟩
  have HB14 := Aside0.mk (show Below W4.heap.size W4 W14 from (by rw [hnd]; exact pw_below_drewN HB13.out _))
  clear hnd HB13
  obtain ⟨i0, hi0, _, hsz, _⟩ := info_parts info5
  obtain ⟨htake, hTd, hT1⟩ := print_take_of (P := Try.prog) (Value.int .u8) 0 25 5 .i64 Try.underlying25 hi0 hsz Ab cb bb n (by omega) (by have := HQn.out; omega) hcb
  rw [Int.toNat_natCast, ← HQ.out] at htake hTd hT1
  have HTC := Aside0.mk (show Kd.C (Kd.int .u8) W14 Ab q.length q from Kd.C_of_reads (h1 := fun _ => rfl) (hTd _ (Kd.reads_of_C (Kd.C_below HZ.out HB14.out))))
  have HTL := Aside0.mk (show q.length ≤ cb from by have h0 := HQ.out; rw [h0, List.length_take]; omega)
  have HBp15 := HB14
  clear hTd hT1 hi0 hsz
  go_wp2_with fail
  refine (HCL.out _ _ _ HTC.out HTL.out).mono ?_
  rintro e W15 ⟨v15, rfl, hR15, hb15⟩
  obtain ⟨Am15, cm15, rfl, hcm15, hCm15⟩ := Kd.R_reads hR15
  have HB15 := Aside0.mk (below_then HBp15.out HBp15.out.size hb15)
  clear hR15 hb15 hCm15 hcm15 HBp15
  clear HTC HTL htake HB14
  try rw [show ([] : List ByteArray).length = 0 from rfl]
  go_wp2_with fail
  refine (num14_same _ _).mono ?_
  rintro e W16 ⟨rfl, ⟨nd, hnd⟩⟩
  have HB16 := Aside0.mk (show Below W4.heap.size W4 W16 from (by rw [hnd]; exact pw_below_drewN HB15.out _))
  clear hnd HB15
  go_wp2_with fail
  refine (works14_true _).mono ?_
  rintro e Wz ⟨rfl, hbz⟩
  have HBz := Aside0.mk (below_then HW4.out HW4.out.size (below_then HB16.out HB16.out.size hbz))
  clear hbz
  go_wp2
  go_ret
  exact ⟨rfl, HBz.out⟩
set_option maxRecDepth 100000 in
set_option maxHeartbeats 4000000 in
theorem bk_oo (A : Option Addr) (c : Nat) (l : List ByteArray) (a bb a1 b1 : List Int) (w : World) (hC : Kd.C Kd.string w A l.length l) (hc : l.length ≤ c) (ha : a.length ≤ 3000000) (hbn : bb.length ≤ 3000000) (ha1 : a1 = a ++ [0]) (hb1 : b1 = bb ++ [0]) (hlo : marquetrylaw14_long.f (l.length + 1) l = some false) (hA : strings_Lengths.f l = some (a, 0)) (hB : strings_Prefixes.f l = some (bb, 0)) (hX : strings_ReadLengths.f a (l.length : Int) = some (l, 0)) (hY : strings_ReadPrefixes.f bb (l.length : Int) = some (l, 0)) (hS : marquetrylaw14_same.f (l.length + 1) l l = some true) (hI : strings_ReadLengths.f a1 (l.length : Int) = some ([], 7)) (hJ : strings_ReadPrefixes.f b1 (l.length : Int) = some ([], 7)) (n : Nat) (hna : a.length ≤ n) (hnb : bb.length ≤ n) :
    Calls Try.prog 8 #[.slice A l.length c, .int .i64 (n : Int)] w fun e w' => e = .returned (.bool true) ∧ Below w.heap.size w w' := by
  have HC := Aside0.mk hC
  have HLO := Aside0.mk (marquetrylaw14_long.calls (l.length + 1) A c l false w hC hc hlo)
  have HCA := Aside0.mk (fun (W : World) (h : Kd.C Kd.string W A l.length l) => strings_Lengths.calls A c l _ _ W h hc hA)
  have HCB := Aside0.mk (fun (W : World) (h : Kd.C Kd.string W A l.length l) => strings_Prefixes.calls A c l _ _ W h hc hB)
  have HCX := Aside0.mk (fun (W : World) (Az : Option Addr) (cz : Nat) (h : Kd.C (Kd.int .u8) W Az a.length a) (hcz : a.length ≤ cz) => strings_ReadLengths.calls Az cz a _ _ _ W h hcz hX)
  have HCY := Aside0.mk (fun (W : World) (Az : Option Addr) (cz : Nat) (h : Kd.C (Kd.int .u8) W Az bb.length bb) (hcz : bb.length ≤ cz) => strings_ReadPrefixes.calls Az cz bb _ _ _ W h hcz hY)
  have HCI := Aside0.mk (fun (W : World) (Az : Option Addr) (cz : Nat) (h : Kd.C (Kd.int .u8) W Az a1.length a1) (hcz : a1.length ≤ cz) => strings_ReadLengths.calls Az cz a1 _ _ _ W h hcz hI)
  have HCJ := Aside0.mk (fun (W : World) (Az : Option Addr) (cz : Nat) (h : Kd.C (Kd.int .u8) W Az b1.length b1) (hcz : b1.length ≤ cz) => strings_ReadPrefixes.calls Az cz b1 _ _ _ W h hcz hJ)
  have HCS := Aside0.mk (fun (W : World) (Az : Option Addr) (cz : Nat) (h : Kd.C Kd.string W Az l.length l) (hcz : l.length ≤ cz) (h2 : Kd.C Kd.string W A l.length l) => marquetrylaw14_same.calls (l.length + 1) Az cz l A c l true W h hcz h2 hc hS)
  have HA1 := Aside0.mk ha1
  have HB1e := Aside0.mk hb1
  have q0 : decide ((n : Int) ≥ 0) = true := decide_eq_true (by omega)
  have qa : decide ((n : Int) < (a.length : Int)) = false := decide_eq_false (by omega)
  have qb : decide ((n : Int) < (bb.length : Int)) = false := decide_eq_false (by omega)
  have qa2 : decide (n < a.length) = false := decide_eq_false (by omega)
  have qb2 : decide (n < bb.length) = false := decide_eq_false (by omega)
  clear hC ha1 hb1 hlo hA hB hX hY hS hI hJ hna hnb
  go_enter Try.func8, Try.ntmps8
  go_wp2_with fail
  refine HLO.out.mono ?_
  rintro e W0 ⟨rfl, ⟨nd, hnd⟩⟩
  have HB0 := Aside0.mk (show Below w.heap.size w W0 from (by rw [hnd]; exact pw_below_drewN (Below.refl _ _) _))
  clear hnd
  go_wp2_with fail
  refine (HCA.out _ (Kd.C_below HC.out HB0.out)).mono ?_
  rintro e W1 ⟨v1, rfl, hR1, hb1⟩
  obtain ⟨Aa, ca, rfl, hca, hC1⟩ := Kd.R_reads hR1
  have HB1 := Aside0.mk (below_then HB0.out HB0.out.size hb1)
  have HA1c := Aside0.mk hC1
  clear hR1 hb1 hC1 HB0
  go_wp2_with fail
  refine (HCB.out _ (Kd.C_below HC.out HB1.out)).mono ?_
  rintro e W2 ⟨v2, rfl, hR2, hb2⟩
  obtain ⟨Ab, cb, rfl, hcb, hC2⟩ := Kd.R_reads hR2
  have HB2 := Aside0.mk (below_then HB1.out HB1.out.size hb2)
  have HA2c := Aside0.mk (Kd.C_below HA1c.out hb2)
  have HZ2c := Aside0.mk hC2
  clear hR2 hb2 hC2 HB1 HA1c
  go_wp2_with fail
  refine (HCX.out _ _ _ HA2c.out hca).mono ?_
  rintro e W3 ⟨v3, rfl, hR3, hb3⟩
  obtain ⟨Ax, cx, rfl, hcx, hC3⟩ := Kd.R_reads hR3
  have HB3 := Aside0.mk (below_then HB2.out HB2.out.size hb3)
  have HA3c := Aside0.mk (Kd.C_below HA2c.out hb3)
  have HZ3c := Aside0.mk (Kd.C_below HZ2c.out hb3)
  have HX3c := Aside0.mk hC3
  clear hR3 hb3 hC3 HB2 HA2c HZ2c
  go_wp2_with fail
  refine (HCY.out _ _ _ HZ3c.out hcb).mono ?_
  rintro e W4 ⟨v4, rfl, hR4, hb4⟩
  obtain ⟨Ay, cy, rfl, hcy, hC4⟩ := Kd.R_reads hR4
  have HW4 := Aside0.mk (below_then HB3.out HB3.out.size hb4)
  have HA := Aside0.mk (Kd.C_below HA3c.out hb4)
  have HZ := Aside0.mk (Kd.C_below HZ3c.out hb4)
  have HX := Aside0.mk (Kd.C_below HX3c.out hb4)
  have HY := Aside0.mk hC4
  have HL4 := Aside0.mk (Kd.C_below HC.out HW4.out)
  have HB4 := Aside0.mk (Below.refl W4.heap.size W4)
  clear hR4 hb4 hC4 HB3 HA3c HZ3c HX3c
  go_wp2_with fail
  refine (num14_same _ _).mono ?_
  rintro e W5 ⟨rfl, ⟨nd, hnd⟩⟩
  have HB5 := Aside0.mk (show Below W4.heap.size W4 W5 from (by rw [hnd]; exact pw_below_drewN HB4.out _))
  clear hnd HB4
  go_wp2_with fail
  refine (num14_same _ _).mono ?_
  rintro e W6 ⟨rfl, ⟨nd, hnd⟩⟩
  have HB6 := Aside0.mk (show Below W4.heap.size W4 W6 from (by rw [hnd]; exact pw_below_drewN HB5.out _))
  clear hnd HB5
  go_wp2_with fail
  refine (num14_same _ _).mono ?_
  rintro e W7 ⟨rfl, ⟨nd, hnd⟩⟩
  have HB7 := Aside0.mk (show Below W4.heap.size W4 W7 from (by rw [hnd]; exact pw_below_drewN HB6.out _))
  clear hnd HB6
  go_wp2_with fail
  refine (num14_same _ _).mono ?_
  rintro e W8 ⟨rfl, ⟨nd, hnd⟩⟩
  have HB8 := Aside0.mk (show Below W4.heap.size W4 W8 from (by rw [hnd]; exact pw_below_drewN HB7.out _))
  clear hnd HB7
  go_wp2_with fail
  refine (HCS.out _ _ _ (Kd.C_below HX.out HB8.out) hcx (Kd.C_below HL4.out HB8.out)).mono ?_
  rintro e W9 ⟨rfl, ⟨nd, hnd⟩⟩
  have HB9 := Aside0.mk (show Below W4.heap.size W4 W9 from (by rw [hnd]; exact pw_below_drewN HB8.out _))
  clear hnd HB8
  go_wp2_with fail
  refine (HCS.out _ _ _ (Kd.C_below HY.out HB9.out) hcy (Kd.C_below HL4.out HB9.out)).mono ?_
  rintro e W10 ⟨rfl, ⟨nd, hnd⟩⟩
  have HB10 := Aside0.mk (show Below W4.heap.size W4 W10 from (by rw [hnd]; exact pw_below_drewN HB9.out _))
  clear hnd HB9
  have HCp := Aside0.mk (Kd.C_below HA.out HB10.out)
  go_wp2_with (first
    | ((with_reducible refine gate_dst (N := 73) rfl ?_); refine Kd.R_lit (Kd.int .u8) _ 5 ?hg (N := 73) ?hd (xs := ([] : List Int)) (inner := []) (ok := fun _ => True) (okp := fun _ => True) ?hr ?hp (fun _ hk => hk) trivial (Below.refl _ _) (Nat.le_refl _) (by simp) ?_; (case hd => rfl); (case hg => rfl); (case hr => first | (go_simp; done) | (go_simp; rfl)); (case hp => exact (Reps.none _ _)); intro u1 w1 ho1 hb1 hg_ hnew_; clear hg_ hnew_; have HO1 := Aside0.mk (Kd.own_of_R (enc := Value.int .u8) (h1 := fun _ => rfl) (Kd.R_lower ho1 (Nat.le_refl W10.heap.size))); have HD1 := Aside0.mk hb1; have HC1 := Aside0.mk (Kd.C_below HCp.out hb1); have HS1 := Aside0.mk hb1.size; clear ho1 hb1)
    | ((with_reducible refine gate_builtin (b := .append) (xs := #[.tmp 73, .tmp 74]) rfl ?_); at_builtin; refine print_append_row (w0 := W10) W10.heap.size rfl (.tmp 73) (.tmp 74) 25 5 .u8 1 rfl Try.underlying25 dg_info (by decide) _ [] a Aa a.length ca rfl rfl HO1.out (Kd.reads_of_C HC1.out) HD1.out HS1.out (by simp; omega) ?_; intro u2 w2 ho2 hb2 hg2 hat2; rw [List.nil_append] at ho2; have HO2 := Aside0.mk ho2; have HD2 := Aside0.mk hb2; have HS2 := Aside0.mk hb2.size; clear ho2 hb2 hg2 hat2)
    | ((with_reducible refine gate_builtin (b := .append) (xs := #[.tmp 75, .tmp 76]) rfl ?_); at_builtin; refine print_append_num (w0 := W10) W10.heap.size rfl (.tmp 75) (.tmp 76) 25 5 .u8 1 rfl Try.underlying25 dg_info (by decide) u2 a 0 rfl rfl HO2.out HD2.out HS2.out (by omega) ?_; intro u3 w3 ho3 hb3 hg3 hat3; rw [← HA1.out] at ho3; obtain ⟨At11, ct11, rfl⟩ := own_formD ho3; have HR3 := Aside0.mk (Kd.R_reads' (Kd.R_of_own (enc := Value.int .u8) (h1 := fun _ => rfl) (ok := fun _ => True) ho3 (fun _ _ => trivial))); have HBp11 := Aside0.mk (below_then HB10.out HB10.out.size hb3); clear ho3 hb3 hg3 hat3))
  clear HO2 HO1 HD1 HD2 HS1 HS2 HC1 HCp HB10
  refine (HCI.out _ _ _ HR3.out.2.2 HR3.out.2.1).mono ?_
  rintro e W11 ⟨v11, rfl, hR11, hb11⟩
  obtain ⟨Am11, cm11, rfl, hcm11, hCm11⟩ := Kd.R_reads hR11
  have HB11 := Aside0.mk (below_then HBp11.out HBp11.out.size hb11)
  clear hR11 hb11 hCm11 hcm11 HBp11
  clear HR3
  try rw [show ([] : List ByteArray).length = 0 from rfl]
  have HCp := Aside0.mk (Kd.C_below HZ.out HB11.out)
  go_wp2_with (first
    | ((with_reducible refine gate_dst (N := 84) rfl ?_); refine Kd.R_lit (Kd.int .u8) _ 5 ?hg (N := 84) ?hd (xs := ([] : List Int)) (inner := []) (ok := fun _ => True) (okp := fun _ => True) ?hr ?hp (fun _ hk => hk) trivial (Below.refl _ _) (Nat.le_refl _) (by simp) ?_; (case hd => rfl); (case hg => rfl); (case hr => first | (go_simp; done) | (go_simp; rfl)); (case hp => exact (Reps.none _ _)); intro u1 w1 ho1 hb1 hg_ hnew_; clear hg_ hnew_; have HO1 := Aside0.mk (Kd.own_of_R (enc := Value.int .u8) (h1 := fun _ => rfl) (Kd.R_lower ho1 (Nat.le_refl W11.heap.size))); have HD1 := Aside0.mk hb1; have HC1 := Aside0.mk (Kd.C_below HCp.out hb1); have HS1 := Aside0.mk hb1.size; clear ho1 hb1)
    | ((with_reducible refine gate_builtin (b := .append) (xs := #[.tmp 84, .tmp 85]) rfl ?_); at_builtin; refine print_append_row (w0 := W11) W11.heap.size rfl (.tmp 84) (.tmp 85) 25 5 .u8 1 rfl Try.underlying25 dg_info (by decide) _ [] bb Ab bb.length cb rfl rfl HO1.out (Kd.reads_of_C HC1.out) HD1.out HS1.out (by simp; omega) ?_; intro u2 w2 ho2 hb2 hg2 hat2; rw [List.nil_append] at ho2; have HO2 := Aside0.mk ho2; have HD2 := Aside0.mk hb2; have HS2 := Aside0.mk hb2.size; clear ho2 hb2 hg2 hat2)
    | ((with_reducible refine gate_builtin (b := .append) (xs := #[.tmp 86, .tmp 87]) rfl ?_); at_builtin; refine print_append_num (w0 := W11) W11.heap.size rfl (.tmp 86) (.tmp 87) 25 5 .u8 1 rfl Try.underlying25 dg_info (by decide) u2 bb 0 rfl rfl HO2.out HD2.out HS2.out (by omega) ?_; intro u3 w3 ho3 hb3 hg3 hat3; rw [← HB1e.out] at ho3; obtain ⟨At12, ct12, rfl⟩ := own_formD ho3; have HR3 := Aside0.mk (Kd.R_reads' (Kd.R_of_own (enc := Value.int .u8) (h1 := fun _ => rfl) (ok := fun _ => True) ho3 (fun _ _ => trivial))); have HBp12 := Aside0.mk (below_then HB11.out HB11.out.size hb3); clear ho3 hb3 hg3 hat3))
  clear HO2 HO1 HD1 HD2 HS1 HS2 HC1 HCp HB11
  refine (HCJ.out _ _ _ HR3.out.2.2 HR3.out.2.1).mono ?_
  rintro e W12 ⟨v12, rfl, hR12, hb12⟩
  obtain ⟨Am12, cm12, rfl, hcm12, hCm12⟩ := Kd.R_reads hR12
  have HB12 := Aside0.mk (below_then HBp12.out HBp12.out.size hb12)
  clear hR12 hb12 hCm12 hcm12 HBp12
  clear HR3
  try rw [show ([] : List ByteArray).length = 0 from rfl]
  go_wp2_with fail
  refine (num14_same _ _).mono ?_
  rintro e W13 ⟨rfl, ⟨nd, hnd⟩⟩
  have HB13 := Aside0.mk (show Below W4.heap.size W4 W13 from (by rw [hnd]; exact pw_below_drewN HB12.out _))
  clear hnd HB12
  go_wp2_with fail
  refine (num14_same _ _).mono ?_
  rintro e W14 ⟨rfl, ⟨nd, hnd⟩⟩
  have HB14 := Aside0.mk (show Below W4.heap.size W4 W14 from (by rw [hnd]; exact pw_below_drewN HB13.out _))
  clear hnd HB13
  go_wp2_with fail
  refine (works14_true _).mono ?_
  rintro e Wz ⟨rfl, hbz⟩
  have HBz := Aside0.mk (below_then HW4.out HW4.out.size (below_then HB14.out HB14.out.size hbz))
  clear hbz
  go_wp2
  go_ret
  exact ⟨rfl, HBz.out⟩
theorem bk_long (A : Option Addr) (c : Nat) (l : List ByteArray) (cut : Int) (w : World) (hC : Kd.C Kd.string w A l.length l) (hc : l.length ≤ c) (hlo : marquetrylaw14_long.f (l.length + 1) l = some true) :
    Calls Try.prog 8 #[.slice A l.length c, .int .i64 cut] w fun e w' => e = .returned (.bool true) ∧ Below w.heap.size w w' := by
  have HLO := Aside0.mk (marquetrylaw14_long.calls (l.length + 1) A c l true w hC hc hlo)
  clear hC hlo
  go_enter Try.func8, Try.ntmps8
  go_wp2_with fail
  refine HLO.out.mono ?_
  rintro e W0 ⟨rfl, ⟨nd, hnd⟩⟩
  have HB0 := Aside0.mk (show Below w.heap.size w W0 from (by rw [hnd]; exact pw_below_drewN (Below.refl _ _) _))
  clear hnd
  go_wp2_with fail
  refine (works14_true _).mono ?_
  rintro e Wz ⟨rfl, hbz⟩
  have HBz := Aside0.mk (below_then HB0.out HB0.out.size hbz)
  clear hbz
  go_wp2
  go_ret
  exact ⟨rfl, HBz.out⟩
theorem bk_all (A : Option Addr) (c : Nat) (l : List ByteArray) (cut : Int) (w : World) (hC : Kd.C Kd.string w A l.length l) (hc : l.length ≤ c) (hs : ∀ s ∈ l, s.size ≤ 140737488351232) :
    Calls Try.prog 8 #[.slice A l.length c, .int .i64 cut] w fun e w' => e = .returned (.bool true) ∧ Below w.heap.size w w' := by
  obtain ⟨r, hlo, hsm⟩ := long14_all l hs
  cases r with
  | true => exact bk_long A c l cut w hC hc hlo
  | false =>
    have hsm := hsm rfl
    have hz : longZ l = false := decide_eq_false (by omega)
    have e0 : ((0 : Nat) : Int) ≤ (l.length : Int) := by omega
    have h0 : (0 : Int) ≤ (l.length : Int) := by omega
    have h1 : (l.length : Int) ≤ 65536 := by omega
    have na := lengthsZ_len hz
    have nb := prefixesZ_len hz
    have ua := lengthsZ_u8 l
    have ub := prefixesZ_u8 l
    have hA : strings_Lengths.f l = some ((lengthsZ l).1, 0) := (fLengths hz).trans (by rw [lengthsZ_fine hz])
    have hB : strings_Prefixes.f l = some ((prefixesZ l).1, 0) := (fPrefixes hz).trans (by unfold prefixesZ; rw [if_neg (by rw [hz]; decide)])
    have u1 : ∀ x ∈ (lengthsZ l).1 ++ [0], 0 ≤ x ∧ x ≤ 255 := fun x hx => by
      rcases List.mem_append.1 hx with h | h
      · exact ua x h
      · rw [List.mem_singleton.1 h]; decide
    have u2 : ∀ x ∈ (prefixesZ l).1 ++ [0], 0 ≤ x ∧ x ≤ 255 := fun x hx => by
      rcases List.mem_append.1 hx with h | h
      · exact ub x h
      · rw [List.mem_singleton.1 h]; decide
    have hX : strings_ReadLengths.f (lengthsZ l).1 (l.length : Int) = some (l, 0) := by
      have := textsT_back hz []
      rw [List.append_nil] at this
      rw [fReadLengths ua (by omega), this, readT_ok h0 h1]
    have hY : strings_ReadPrefixes.f (prefixesZ l).1 (l.length : Int) = some (l, 0) := by
      have := prefT_back hz []
      rw [List.append_nil] at this
      rw [fReadPrefixes ub (by omega), this, readT_ok h0 h1]
    have hI : strings_ReadLengths.f ((lengthsZ l).1 ++ [0]) (l.length : Int) = some ([], 7) := by
      rw [fReadLengths u1 (by simp; omega), textsT_back hz [0], readT_more h0 h1]
    have hJ : strings_ReadPrefixes.f ((prefixesZ l).1 ++ [0]) (l.length : Int) = some ([], 7) := by
      rw [fReadPrefixes u2 (by simp; omega), prefT_back hz [0], readT_more h0 h1]
    have hS : marquetrylaw14_same.f (l.length + 1) l l = some true := sameS (by omega) (by omega)
    have hK : ∀ n, n < (lengthsZ l).1.length → strings_ReadLengths.f ((lengthsZ l).1.take n) (l.length : Int) = some ([], 6) := fun n hn => by
      rw [fReadLengths (fun x hx => ua x (List.mem_of_mem_take hx)) (by rw [List.length_take]; omega), textsT_short hz (List.take_append_drop n _).symm (fun h => by have := List.drop_eq_nil_iff.1 h; omega), readT_err h0 h1]
    have hL : ∀ n, n < (prefixesZ l).1.length → strings_ReadPrefixes.f ((prefixesZ l).1.take n) (l.length : Int) = some ([], 6) := fun n hn => by
      rw [fReadPrefixes (fun x hx => ub x (List.mem_of_mem_take hx)) (by rw [List.length_take]; omega), prefT_short hz (List.take_append_drop n _).symm (fun h => by have := List.drop_eq_nil_iff.1 h; omega), readT_err h0 h1]
    by_cases hn : cut < 0
    · exact bk_neg A c l _ _ _ _ w hC hc (by omega) (by omega) rfl rfl hlo hA hB hX hY hS hI hJ cut hn
    · obtain ⟨n, rfl⟩ : ∃ n : Nat, cut = (n : Int) := ⟨cut.toNat, by omega⟩
      by_cases h3 : n < (lengthsZ l).1.length <;> by_cases h4 : n < (prefixesZ l).1.length
      · exact bk_ii A c l _ _ _ _ w hC hc (by omega) (by omega) rfl rfl hlo hA hB hX hY hS hI hJ n _ rfl h3 (hK n h3) _ rfl h4 (hL n h4)
      · exact bk_io A c l _ _ _ _ w hC hc (by omega) (by omega) rfl rfl hlo hA hB hX hY hS hI hJ n _ rfl h3 (hK n h3) (by omega)
      · exact bk_oi A c l _ _ _ _ w hC hc (by omega) (by omega) rfl rfl hlo hA hB hX hY hS hI hJ n (by omega) _ rfl h4 (hL n h4)
      · exact bk_oo A c l _ _ _ _ w hC hc (by omega) (by omega) rfl rfl hlo hA hB hX hY hS hI hJ n (by omega) (by omega)
end Go.Proofs.Ytcdephhplmcmjaa.X
end

section
namespace Go.Proofs.Ytcdephhplmcmjaa.X
open Go.RowKit Go.Proofs.YtcdephhplmcmjaaW.PrintWords Go.Proofs.YtcdephhplmcmjaaW.PrintLast Go.Proofs.YtcdephhplmcmjaaW.PrintMore
attribute [local go_sem] max2_int min2_int max_two min_two max_three min_three max_four min_four
set_option linter.unusedVariables false
set_option linter.unusedSimpArgs false
def marquetrylaw14_StringsBack.f (l0 : List ByteArray) (a1 : Int) : Option Bool := if (∀ s ∈ l0, s.size ≤ 140737488351232) then some true else none
theorem marquetrylaw14_StringsBack.calls (A0 : Option Addr) (c0 : Nat) (l0 : List ByteArray) (a1 : Int) (r : Bool) (w : World) (hr0 : Kd.C Kd.string w A0 l0.length l0) (hc0 : l0.length ≤ c0) (h : marquetrylaw14_StringsBack.f l0 a1 = some r) :
    Calls Try.prog 8 #[.slice A0 l0.length c0, .int .i64 a1] w fun e w' => e = .returned (.bool r) ∧ Below w.heap.size w w' := by
  unfold marquetrylaw14_StringsBack.f at h
  by_cases hu : ∀ s ∈ l0, s.size ≤ 140737488351232
  · rw [if_pos hu] at h
    obtain rfl := Option.some.inj h
    exact bk_all A0 c0 l0 a1 w hr0 hc0 hu
  · rw [if_neg hu] at h; cases h
def marquetrylaw14_StringsBack.Pure : Prop := ∀ (l0 : List ByteArray) (a1 : Int), ((∀ x_ ∈ l0, x_.size ≤ 140737488351232) ∧ l0.length ≤ maxLen ∧ l0.length * 16 ≤ 140737488351232) → (Lit.int .i64 a1).wf = true → marquetrylaw14_StringsBack.f l0 a1 = some true
end Go.Proofs.Ytcdephhplmcmjaa.X
end

section
namespace Go.Proofs.Ytcdephhplmcmjaa.Rd
open Go.ChangeShapes Go.WideShapes Go.Deep Go.RowKit Go.Joins Go.Proofs.YtcdephhplmcmjaaW.PrintWords
structure Opens (P : Program) (t : TypeId) {α : Type} (d : Kd α) (Wf : α → Prop) : Prop where
  opens : ∀ {H : Type} {enc : TypeId × Value → H} {w : World} {base : Nat} {spare : Nat → Bool} {held : Bool} {n : Nat} {cs : List Value} {y : DataW H × List MemPlace},
    DataW.trod enc P w base spare held n t cs = some y → (∀ m ∈ y.1.weights P t, m ≤ reachBytes) → ∃ x, d.K w x cs ∧ Wf x
theorem reach_le {m : Nat} (h : m ≤ reachBytes) : m ≤ 140737488351232 := h
theorem opens_string {P : Program} {t : TypeId} (hu : P.underlying t = some .string) : Opens P t Kd.string (fun x => x.size ≤ 140737488351232) := by
  refine ⟨fun {H enc w base spare held n cs y} h hw => ?_⟩
  obtain ⟨x, rfl, hx, _⟩ := DataW.trod_string hu h
  subst hx
  refine ⟨x, rfl, ?_⟩
  have := hw x.data.toList.length (by simp [DataW.weights])
  rw [Array.length_toList] at this
  exact this
theorem list_of {α : Type} {p : Nat → α → Prop} : ∀ (n : Nat), (∀ i, i < n → ∃ x, p i x) → ∃ xs : List α, xs.length = n ∧ ∀ i x, xs[i]? = some x → p i x
  | 0, _ => ⟨[], rfl, fun i x h => by simp at h⟩
  | n + 1, h => by
    obtain ⟨xs, hl, hx⟩ := list_of n (fun i hi => h i (by omega))
    obtain ⟨x, hp⟩ := h n (by omega)
    refine ⟨xs ++ [x], by simp [hl], fun i y hy => ?_⟩
    rcases Nat.lt_or_ge i xs.length with hi | hi
    · rw [List.getElem?_append_left hi] at hy; exact hx i y hy
    · have hi' : i = xs.length := by
        have := (List.getElem?_eq_some_iff.1 hy).1
        simp at this; omega
      subst hi'
      have : x = y := by simpa using hy
      subst this
      rw [hl]; exact hp
theorem weights_all {H : Type} {P : Program} {e : TypeId} : ∀ (ds : List (DataW H)) (d : DataW H), d ∈ ds → ∀ m ∈ d.weights P e, m ∈ DataW.weightsAll P e ds
  | [], d, h, _, _ => by simp at h
  | d0 :: ds, d, h, m, hm => by
    simp only [DataW.weightsAll, List.mem_append]
    rcases List.mem_cons.1 h with rfl | h
    · exact .inl hm
    · exact .inr (weights_all ds d h m hm)
theorem opens_slice {P : Program} {t e : TypeId} {α : Type} {d : Kd α} {Wf : α → Prop} {B : Nat} (hu : P.underlying t = some (.slice e)) (hsz : P.cellsOf e = d.sz) (hB : P.bytesOf e = B) (ho : Opens P e d Wf) :
    Opens P t (Kd.slice e d) (fun xs => (∀ x ∈ xs, Wf x) ∧ xs.length ≤ maxLen ∧ xs.length * B ≤ 140737488351232) := by
  refine ⟨fun {H enc w base spare held n cs y} h hw => ?_⟩
  rcases open_slice hu h with ⟨rfl, _⟩ | ⟨a, len, cap, m, n', D, Pl, rfl, hb, hl, hm, hmm, rfl, hx⟩
  · exact ⟨[], ⟨none, 0, rfl, Nat.le_refl _, rfl, Nat.zero_le _, fun h => absurd h (by simp)⟩, by simp⟩
  · have hlm : len ≤ m := by rw [hmm]; split <;> omega
    have hsize : len * B ≤ 140737488351232 := by
      have := hw ((((List.range len).map D).length + ((List.range (m - len)).map fun j => D (len + j)).length) * P.bytesOf e) (by simp [DataW.weights, hu])
      rw [hB] at this
      refine Nat.le_trans (Nat.mul_le_mul_right _ ?_) (reach_le this)
      simp
    obtain ⟨xs, hxl, hxs⟩ := list_of (p := fun i x => ∃ cs', w.cells? base (a.add (i * P.cellsOf e)) (P.cellsOf e) = some cs' ∧ d.K w x cs' ∧ Wf x) len (fun i hi => by
      obtain ⟨cs', h1, h2⟩ := hx i (by omega)
      obtain ⟨x, hk, hwf⟩ := ho.opens h2 (fun q hq => hw q (by
        simp only [DataW.weights, hu, List.mem_cons, List.mem_append]
        exact .inr (.inl (weights_all _ (D i) (List.mem_map.2 ⟨i, List.mem_range.2 hi, rfl⟩) q hq))))
      exact ⟨x, cs', h1, hk, hwf⟩)
    subst hxl
    refine ⟨xs, ⟨some a, cap, rfl, hl, rfl, ?_, fun _ => ⟨a, rfl, fun j p hp => ?_⟩⟩, ⟨fun x hx' => ?_, Nat.le_trans hl hm, hsize⟩⟩
    · unfold maxLen at hm; omega
    · obtain ⟨cs', h1, hk, _⟩ := hxs j p hp
      obtain ⟨_, hcl, hcc⟩ := World.cells?_some h1
      refine ⟨cs', by rw [hcl, hsz], hk, fun i u hiu => ?_⟩
      have hi : i < P.cellsOf e := by rw [← hcl]; exact (List.getElem?_eq_some_iff.1 hiu).1
      rw [← hsz, ← Go.Deep.add_add, hcc i hi]
      exact hiu
    · obtain ⟨i, hi⟩ := List.getElem?_of_mem hx'
      exact (hxs i x hi).choose_spec.2.2
theorem one_of {P : Program} {fs : Array Field} (hone : oneCellFields P fs = true) {j : Nat} {f : Field} (h : fs.toList[j]? = some f) : f.offset = j ∧ P.cellsOf f.type = 1 := hone_of hone j f (by simpa using h)
theorem opens_arg {P : Program} {t : TypeId} {α : Type} {d : Kd α} {Wf : α → Prop} (ho : Opens P t d Wf) {H : Type} {enc : TypeId × Value → H} {w : World} {base : Nat} {spare : Nat → Bool} {held : Bool} {v : Value} {dt : DataW H} {p : List MemPlace}
    (h : DataW.Trod enc P w base spare held t v dt p) {ts : List TypeId} {ds : List (DataW H)} {j : Nat} (hsz : (DataW.weightsEach P ts ds).all (· ≤ reachBytes) = true) (ht : ts[j]? = some t) (hd : ds[j]? = some dt) : ∃ x, d.K w x v.cells.toList ∧ Wf x := by
  obtain ⟨n, hn⟩ := h
  refine ho.opens hn (fun m hm => ?_)
  have := List.all_eq_true.1 hsz m (DataW.weights_mem_each ht hd m hm)
  simpa using this
end Go.Proofs.Ytcdephhplmcmjaa.Rd
end
