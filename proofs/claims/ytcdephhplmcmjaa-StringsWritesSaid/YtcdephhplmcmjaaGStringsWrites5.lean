/- StringsWrites: texts of this seat in one (wip/merge.py): Mt, Tn, X31, X33, Te, Tq, Tw, X34, Rd. -/
import Derived.Test.YtcdephhplmcmjaaGStringsWrites4
import Derived.Test.YtcdephhplmcmjaaGStringsWrites3
import Derived.Lib.ConvBytes
import Derived.Test.YtcdephhplmcmjaaGStringsWrites0
import Derived.Test.YtcdephhplmcmjaaGStringsWrites2
import Derived.Deep.Slices
import Derived.Lib.SmallJoins
import Derived.SizedLaws
section
namespace Go.Proofs.Ytcdephhplmcmjaa.D13
set_option linter.unusedVariables false
set_option linter.unusedSimpArgs false
open Go.RowKit Go.Proofs.Ytcdephhplmcmjaa.X Go.Proofs.YtcdephhplmcmjaaW.PrintWords Go.Proofs.YtcdephhplmcmjaaW.PrintLast Go.Proofs.YtcdephhplmcmjaaW.PrintMore Go.Proofs.Ytcdephhplmcmjaa.Bx Go.Proofs.Ytcdephhplmcmjaa.Nx Go.Proofs.Ytcdephhplmcmjaa.Px
theorem mn_min (a b : Int) : mn a b = min a b := by unfold mn; (repeat' split) <;> omega
theorem mx_max (a b : Int) : mx a b = max a b := by unfold mx; (repeat' split) <;> omega
theorem take_fold (d : List Int) (x : Int) (i : Nat) (h : i < d.length) : min ((d.take i).foldl min x) (rd d (i : Int)) = (d.take (i + 1)).foldl min x := by
  rw [take_snoc d i h, List.foldl_append]; rfl
theorem fold_minD {d : List Int} (h : 0 < d.length) : (d.take d.length).foldl min (rd d 0) = minD d := by
  rw [List.take_of_length_le (Nat.le_refl _)]
  cases d with
  | nil => simp at h
  | cons x r =>
    show (x :: r).foldl min x = r.foldl min x
    rw [List.foldl_cons]
    congr 1
    omega
theorem blk_l0 (d : List Int) (hn : d.length ≤ 128) (h0 : 0 < d.length) : ∀ (e k i : Nat), i + e = d.length → marquetryref13_block.l0 (k + e + 1) d ((d.take i).foldl min (rd d 0)) (i : Int) = (marquetryref13_Signed.f k (minD d)).bind fun t => marquetryref13_block.l1 k d (minD d) t [] 0
  | 0, k, i, h => by
    rw [show k + 0 + 1 = k + 1 by omega, marquetryref13_block.l0, if_neg (by omega), show i = d.length by omega, fold_minD h0]
  | e + 1, k, i, h => by
    rw [show k + (e + 1) + 1 = (k + e + 1) + 1 by omega, marquetryref13_block.l0, if_pos (by omega), if_pos (by omega), mn_min, take_fold d _ i (by omega), w64 (by omega) (by omega), show (i : Int) + 1 = ((i + 1 : Nat) : Int) by omega]
    exact blk_l0 d hn h0 e k (i + 1) (by omega)
theorem cut_rd (d : List Int) (p i : Nat) (hi : i < (cutW d p).length) : rd d ((32 * p + i : Nat) : Int) = rd (cutW d p) (i : Int) := by
  have hl := cutW_len d p
  rw [rd_lt d _ (by omega), rd_lt _ i hi]
  simp only [cutW, List.getElem_take, List.getElem_drop]
theorem rd_set (l : List Int) (i : Nat) (x : Int) (h : i < l.length) : rd (l.set i x) (i : Int) = x := by
  rw [rd_lt _ i (by rw [List.length_set]; exact h)]
  simp
theorem difsW_length (least : Int) (xs : List Int) (j : Nat) (h : j ≤ xs.length) (hj : j ≤ 32) : (difsW least xs j).length = 32 := by
  unfold difsW
  rw [List.length_append, List.length_map, List.length_take, List.length_replicate]
  omega
theorem difsW_end (least : Int) (xs : List Int) : difsW least xs xs.length = rowW least xs := by
  unfold difsW rowW
  rw [List.take_of_length_le (Nat.le_refl _)]
theorem w32p {p : Nat} (h : p < 4) : wrap64 (32 * (p : Int)) = 32 * (p : Int) := w64 (by omega) (by omega)
theorem w32q {p i q : Nat} (h : p < 4) (hi : i ≤ 32) (hq : q = 32 * p + i) : wrap64 (32 * (p : Int) + (i : Int)) = (q : Int) := by rw [w64 (by omega) (by omega)]; omega
theorem blk_l2 (d : List Int) (hn : d.length ≤ 128) (M : Int) (p N : Nat) (hp : p < 4) (hN : N = min 32 (d.length - 32 * p)) (D : Nat → List Int) (T v : Nat → Int) (pk x5 x6 R : List Int) (h5 : x5.length ≤ 1000) (h6 : x6.length ≤ 100000) (need : Nat) (hneed : 2200 ≤ need)
    (hD : ∀ i, i ≤ N → (D i).length = 32) (hs : ∀ i, i < N → (D i).set i (v i) = D (i + 1)) (hr : ∀ i : Nat, i < N → rd (D (i + 1)) (i : Int) = v i) (hT : ∀ i, i < N → max (T i) (W64 (v i)) = T (i + 1)) (hv : ∀ i : Nat, i < N → marquetryref13_Sub.f (rd d ((32 * p + i : Nat) : Int)) M = some (v i) ∧ inI (v i))
    (hpk : ∀ k, 2200 ≤ k → marquetryref13_Pack.f k (T N) (D N) = some pk) (hpl : pk.length ≤ 256) (hTr : 0 ≤ T N ∧ T N ≤ 64)
    (hl1 : ∀ k, need ≤ k → marquetryref13_block.l1 k d M (x5 ++ [T N]) (x6 ++ pk) ((p + 1 : Nat) : Int) = some R) :
    ∀ (e K i : Nat), i + e = N → need + 2 * e + 2 ≤ K → marquetryref13_block.l2 K d M x5 x6 (p : Int) (D i) (T i) (i : Int) = some R
  | 0, K, i, h, hK => by
    obtain ⟨k, rfl⟩ : ∃ j, K = j + 2 := ⟨K - 2, by omega⟩
    obtain rfl : i = N := by omega
    have hk1 : need ≤ k := by omega
    have hk2 : 2200 ≤ k := by omega
    have b1 : x5.length < 140737488355328 := by omega
    have b2 : x6.length + pk.length < 140737488355328 := by omega
    have e1 : T i % 256 = T i := by omega
    have hi32 : i ≤ 32 := by omega
    have c0 : ¬ ((32 * p + i : Nat) : Int) < (d.length : Int) ∨ ¬ (i : Int) < 32 := by omega
    have hfin : marquetryref13_block.j3 (k + 1) d M x5 x6 (p : Int) (D i) (T i) (i : Int) false = some R := by
      rw [marquetryref13_block.j3, if_neg (by decide), if_pos b1, hpk k hk2, Option.bind_some, if_pos b2, e1, w64s (by omega)]
      exact hl1 k hk1
    rw [marquetryref13_block.l2]
    by_cases c : (i : Int) < 32
    · rw [if_pos c, w32p hp, w32q hp hi32 rfl, decide_eq_false (c0.resolve_right (fun h => h c))]
      exact hfin
    · rw [if_neg c]
      exact hfin
  | e + 1, K, i, h, hK => by
    obtain ⟨k, rfl⟩ : ∃ j, K = j + 2 := ⟨K - 2, by omega⟩
    have hi : i < N := by omega
    obtain ⟨q, hq⟩ : ∃ q, q = 32 * p + i := ⟨_, rfl⟩
    have hv0 := hv i hi
    rw [← hq] at hv0
    have hdl := hD i (by omega)
    have c1 : (0 : Int) ≤ (q : Int) := by omega
    have c2 : (q : Int) < (d.length : Int) := by omega
    have c3 : (0 : Int) ≤ (i : Int) := by omega
    have c4 : (i : Int) < ((D i).length : Int) := by omega
    have c5 : (i : Int) < 32 := by omega
    have hi32 : i ≤ 32 := by omega
    have hi1 : i + 1 ≤ 1000000000 := by omega
    have e1 : ((i : Int)).toNat = i := rfl
    have hw := ref_width (k := k) (by omega) hv0.2
    have r1 : (i + 1) + e = N := by omega
    have r2 : need + 2 * e + 2 ≤ k := by omega
    rw [marquetryref13_block.l2, if_pos c5, w32p hp, w32q hp hi32 hq, decide_eq_true c2, marquetryref13_block.j3, if_pos rfl, w32p hp, w32q hp hi32 hq, if_pos c1, if_pos c2, hv0.1, Option.bind_some, if_pos c3, if_pos c4, Option.bind_some, e1, hs i hi, hr i hi, hw, Option.bind_some, mx_max, hT i hi, w64s hi1]
    exact blk_l2 d hn M p N hp hN D T v pk x5 x6 R h5 h6 need hneed hD hs hr hT hv hpk hpl hTr hl1 e k (i + 1) r1 r2
set_option maxRecDepth 20000 in
theorem blk_l1 (d : List Int) (hd : ∀ x ∈ d, inI x) (hn : d.length ≤ 128) (M : Int) (hM : inI M) : ∀ (m p K : Nat) (x5 x6 : List Int), p + m = 4 → x5.length + m ≤ 1000 → x6.length + 256 * m ≤ 100000 → 2201 + 67 * m ≤ K →
    marquetryref13_block.l1 K d M x5 x6 (p : Int) = some ((x5 ++ wsR M d m p) ++ (x6 ++ psR M d m p))
  | 0, p, K, x5, x6, hp, h5, h6, hK => by
    obtain ⟨k, rfl⟩ : ∃ j, K = j + 1 := ⟨K - 1, by omega⟩
    rw [marquetryref13_block.l1, if_neg (by omega), if_pos (by omega)]
    simp [wsR, psR]
  | m + 1, p, K, x5, x6, hp, h5, h6, hK => by
    obtain ⟨k, rfl⟩ : ∃ j, K = j + 1 := ⟨K - 1, by omega⟩
    have hpl := pakB_length M d p
    have hr := topW_range M (cutW d p)
    have hcl := cutW_length d p
    have hcl2 := cutW_len d p
    have hrl := rowW_length M (cutW d p) hcl
    obtain ⟨need, hneed⟩ : ∃ need, need = 2201 + 67 * m := ⟨_, rfl⟩
    have hn0 : 2200 ≤ need := by omega
    have h2 := blk_l2 d hn M p (cutW d p).length (by omega) hcl2 (fun i => difsW M (cutW d p) i) (fun i => topW M ((cutW d p).take i)) (fun i => difW M (rd (cutW d p) (i : Int))) (pakB M d p) x5 x6 ((x5 ++ wsR M d (m + 1) p) ++ (x6 ++ psR M d (m + 1) p)) (by omega) (by omega) need hn0
      (fun i hi => difsW_length M _ i hi (by omega)) (fun i hi => difsW_len M _ i hi (by omega)) (fun i hi => by
        have h3 := difsW_length M (cutW d p) i (by omega) (by omega)
        have h4 := rd_set (difsW M (cutW d p) i) i (difW M (rd (cutW d p) (i : Int))) (by omega)
        rwa [difsW_len M (cutW d p) i hi (by omega)] at h4)
      (fun i hi => (topW_snoc M (cutW d p) i hi).symm) (fun i hi => ⟨by
        have hm : inI (rd d ((32 * p + i : Nat) : Int)) := by rw [rd_lt d _ (by omega)]; exact hd _ (List.getElem_mem _)
        rw [ref_sub hm hM, cut_rd d p i hi]; rfl, wrap_in _⟩)
      (fun k hk => by
        have hpk := ref_pack (k := k) (W := (topW M (cutW d p)).toNat) (ys := rowW M (cutW d p)) (by omega) (by omega) (by
          rw [hrl]
          have : 32 * ((topW M (cutW d p)).toNat + 2) ≤ 32 * 66 := Nat.mul_le_mul_left _ (by omega)
          omega)
        rw [show (((topW M (cutW d p)).toNat : Nat) : Int) = topW M (cutW d p) by omega] at hpk
        have e1 : (cutW d p).take (cutW d p).length = cutW d p := List.take_of_length_le (Nat.le_refl _)
        show marquetryref13_Pack.f k (topW M ((cutW d p).take (cutW d p).length)) (difsW M (cutW d p) (cutW d p).length) = _
        rw [e1, difsW_end]
        exact hpk)
      (by rw [hpl]; omega) (by
        have e1 : (cutW d p).take (cutW d p).length = cutW d p := List.take_of_length_le (Nat.le_refl _)
        show 0 ≤ topW M ((cutW d p).take (cutW d p).length) ∧ _
        rw [e1]; exact hr)
      (fun k' hk' => by
        have e1 : (cutW d p).take (cutW d p).length = cutW d p := List.take_of_length_le (Nat.le_refl _)
        show marquetryref13_block.l1 k' d M (x5 ++ [topW M ((cutW d p).take (cutW d p).length)]) (x6 ++ pakB M d p) ((p + 1 : Nat) : Int) = _
        rw [e1, blk_l1 d hd hn M hM m (p + 1) k' _ _ (by omega) (by rw [List.length_append, List.length_singleton]; omega) (by rw [List.length_append]; omega) (by omega)]
        simp [wsR, psR]) (cutW d p).length k 0 (by omega) (by omega)
    have e1 : difsW M (cutW d p) 0 = List.replicate 32 0 := by simp [difsW]
    have e2 : topW M ((cutW d p).take 0) = 0 := by simp [topW]
    rw [e1, e2, show ((0 : Nat) : Int) = 0 from rfl] at h2
    rw [marquetryref13_block.l1, if_pos (by omega), if_pos (by decide)]
    exact h2
theorem cut_nil (d : List Int) (i : Nat) (h : npW d ≤ i) : cutW d i = [] := by
  have := cutW_len d i
  unfold npW at h
  exact List.length_eq_zero_iff.1 (by omega)
theorem wsR_more (M : Int) (d : List Int) : ∀ (m z i : Nat), npW d ≤ i + m → wsR M d (m + z) i = wsR M d m i ++ List.replicate z 0
  | 0, 0, i, h => rfl
  | 0, z + 1, i, h => by
    have ih := wsR_more M d 0 z (i + 1) (by omega)
    rw [show 0 + (z + 1) = (0 + z) + 1 by omega]
    show topW M (cutW d i) :: wsR M d (0 + z) (i + 1) = [] ++ List.replicate (z + 1) 0
    rw [ih, cut_nil d i (by omega), List.replicate_succ]
    rfl
  | m + 1, z, i, h => by
    have ih := wsR_more M d m z (i + 1) (by omega)
    rw [show m + 1 + z = (m + z) + 1 by omega, wsR, wsR, ih]
    rfl
theorem psR_more (M : Int) (d : List Int) : ∀ (m z i : Nat), npW d ≤ i + m → psR M d (m + z) i = psR M d m i
  | 0, 0, i, h => rfl
  | 0, z + 1, i, h => by
    have ih := psR_more M d 0 z (i + 1) (by omega)
    have e : pakB M d i = [] := List.length_eq_zero_iff.1 (by rw [pakB_length, cut_nil d i (by omega)]; rfl)
    rw [show 0 + (z + 1) = (0 + z) + 1 by omega]
    show pakB M d i ++ psR M d (0 + z) (i + 1) = []
    rw [ih, e]
    rfl
  | m + 1, z, i, h => by
    have ih := psR_more M d m z (i + 1) (by omega)
    rw [show m + 1 + z = (m + z) + 1 by omega, psR, psR, ih]
theorem ref_block {k : Nat} (hk : 4000 ≤ k) {d : List Int} (hd : ∀ x ∈ d, inI x) (h0 : 0 < d.length) (hn : d.length ≤ 128) : marquetryref13_block.f k d = some (blkB d) := by
  obtain ⟨k', rfl⟩ : ∃ j, k = j + d.length + 1 := ⟨k - d.length - 1, by omega⟩
  have hM := minD_in hd
  have hz := zz_range hM.1 hM.2
  have hv := vb_length64 (n := (zz (minD d)).toNat) (by omega)
  have h1 := blk_l0 d hn h0 d.length k' 0 (by omega)
  rw [show ((0 : Nat) : Int) = 0 from rfl] at h1
  have e0 : (d.take 0).foldl min (rd d 0) = rd d 0 := by simp
  rw [e0] at h1
  unfold marquetryref13_block.f
  rw [if_pos (by omega), h1, ref_signed (by omega) hM.1 hM.2, Option.bind_some]
  have h2 := blk_l1 d hd hn (minD d) hM 4 0 k' (vb (zz (minD d)).toNat) [] (by omega) (by omega) (by simp) (by omega)
  rw [show ((0 : Nat) : Int) = 0 from rfl] at h2
  rw [h2]
  have h4 : npW d ≤ 4 := by unfold npW; omega
  have e1 := wsR_more (minD d) d (npW d) (4 - npW d) 0 (by omega)
  have e2 := psR_more (minD d) d (npW d) (4 - npW d) 0 (by omega)
  rw [show npW d + (4 - npW d) = 4 by omega] at e1 e2
  rw [e1, e2]
  simp [blkB]
theorem difD_cut (L : List Int) (N a e : Nat) (h : a ≤ e) (he : e ≤ N) : ((difD L 1 N).take e).drop a = difD L ((1 + a : Nat) : Int) (e - a) := by
  apply List.ext_getElem
  · rw [List.length_drop, List.length_take, difD_length, difD_length]; omega
  · intro i h1 h2
    rw [List.getElem_drop, List.getElem_take]
    simp only [difD, List.getElem_map, List.getElem_range]
    congr 1
    have e1 : (1 : Int) + ((a + i : Nat) : Int) = ((1 + a : Nat) : Int) + (i : Int) := by omega
    rw [e1]
set_option maxRecDepth 20000 in
theorem wr_l1 (L : List Int) (hL : L.length ≤ 65536) (h0 : 0 < L.length) : ∀ (dd K a : Nat) (out : List Int), (L.length : Int) - (1 + a) < 128 * dd → 4001 + dd ≤ K → out.length + 1040 * dd ≤ 99999990 → a ≤ 70000 →
    marquetryref13_Write.l1 K out (difD L 1 (L.length - 1)) (a : Int) = some (out ++ (blksD L dd ((1 + a : Nat) : Int)).flatMap blkB, 0)
  | 0, K, a, out, h, hK, ho, ha => by
    obtain ⟨k, rfl⟩ : ∃ j, K = j + 1 := ⟨K - 1, by omega⟩
    rw [marquetryref13_Write.l1, if_neg (by rw [difD_length]; omega)]
    simp [blksD]
  | dd + 1, K, a, out, h, hK, ho, ha => by
    obtain ⟨k, rfl⟩ : ∃ j, K = j + 1 := ⟨K - 1, by omega⟩
    have hdl := difD_length L 1 (L.length - 1)
    rw [marquetryref13_Write.l1, hdl]
    by_cases c : (a : Int) < ((L.length - 1 : Nat) : Int)
    · obtain ⟨e, he⟩ : ∃ e : Nat, min ((L.length - 1 : Nat) : Int) ((a : Int) + 128) = (e : Int) := ⟨(min ((L.length - 1 : Nat) : Int) ((a : Int) + 128)).toNat, by omega⟩
      have hm : (min (L.length : Int) (((1 + a : Nat) : Int) + 128) - ((1 + a : Nat) : Int)).toNat = e - a := by omega
      have hdi := difD_in L ((1 + a : Nat) : Int) (e - a)
      have hdn := difD_length L ((1 + a : Nat) : Int) (e - a)
      have hd0 : 0 < (difD L ((1 + a : Nat) : Int) (e - a)).length := by omega
      have hd1 : (difD L ((1 + a : Nat) : Int) (e - a)).length ≤ 128 := by omega
      have hbl := blkB_length hdi hd1
      have hk4 : 4000 ≤ k := by omega
      have hob : out.length + (blkB (difD L ((1 + a : Nat) : Int) (e - a))).length < 140737488355328 := by omega
      rw [if_pos c, if_pos (by omega), w64 (by omega) (by omega), mn_min, he, if_pos (by omega), if_pos (by omega), show ((e : Int)).toNat = e from rfl, show ((a : Int)).toNat = a from rfl, difD_cut L _ a e (by omega) (by omega), ref_block (k := k) hk4 hdi hd0 hd1, Option.bind_some, if_pos hob]
      have ih := wr_l1 L hL h0 dd k (a + 128) (out ++ blkB (difD L ((1 + a : Nat) : Int) (e - a))) (by omega) (by omega) (by rw [List.length_append]; omega) (by omega)
      rw [show (a : Int) + 128 = ((a + 128 : Nat) : Int) by omega, ih, blksD, if_pos (by omega), hm, List.flatMap_cons, show ((1 + a : Nat) : Int) + 128 = ((1 + (a + 128) : Nat) : Int) by omega, List.append_assoc]
    · rw [if_neg c, blksD, if_neg (by omega)]
      simp
theorem wsub1 {i : Nat} (h : 1 ≤ i) (h2 : i ≤ 1000000000) : wrap64 ((i : Int) - 1) = ((i - 1 : Nat) : Int) := by rw [w64 (by omega) (by omega)]; omega
theorem wr_l0 (L : List Int) (hx : ∀ x ∈ L, inI x) (hL : L.length ≤ 65536) (h0 : 0 < L.length) (out : List Int) (ho : out.length ≤ 100) : ∀ (e K i : Nat), i + e = L.length → 1 ≤ i → 4700 + e ≤ K →
    marquetryref13_Write.l0 K L out (difD L 1 (i - 1)) (i : Int) = some (out ++ (allD L).flatMap blkB, 0)
  | 0, K, i, h, hi, hK => by
    obtain ⟨k, rfl⟩ : ∃ j, K = j + 1 := ⟨K - 1, by omega⟩
    rw [marquetryref13_Write.l0, if_neg (by omega), show i - 1 = L.length - 1 by omega]
    have := wr_l1 L hL h0 600 k 0 out (by omega) (by omega) (by omega) (by omega)
    exact this
  | e + 1, K, i, h, hi, hK => by
    obtain ⟨k, rfl⟩ : ∃ j, K = j + 1 := ⟨K - 1, by omega⟩
    have m1 : inI (rd L (i : Int)) := by rw [rd_lt L i (by omega)]; exact hx _ (List.getElem_mem _)
    have m2 : inI (rd L ((i - 1 : Nat) : Int)) := by rw [rd_lt L (i - 1) (by omega)]; exact hx _ (List.getElem_mem _)
    have hds := difD_succ L 1 (i - 1)
    rw [show i - 1 + 1 = i by omega, show (1 : Int) + ((i - 1 : Nat) : Int) = (i : Int) by omega, show (i : Int) - 1 = ((i - 1 : Nat) : Int) by omega] at hds
    have ih := wr_l0 L hx hL h0 out ho e k (i + 1) (by omega) (by omega) (by omega)
    rw [show i + 1 - 1 = i by omega, hds] at ih
    rw [marquetryref13_Write.l0, if_pos (by omega), if_pos (by omega), wsub1 hi (by omega), if_pos (by omega), if_pos (by omega), ref_sub m1 m2, Option.bind_some, if_pos (by rw [difD_length]; omega), w64s (n := i) (by omega)]
    exact ih
theorem ref_write {k : Nat} {L : List Int} (hk : L.length + 4800 ≤ k) (hx : ∀ x ∈ L, inI x) (hL : L.length ≤ 65536) : marquetryref13_Write.f k L = some (listB L, 0) := by
  have e128 : vb 128 = [128, 1] := by rw [vb_big (by omega), vb_small (by omega)]; rfl
  have e4 : vb 4 = [4] := by rw [vb_small (by omega)]; rfl
  have h0 := rd0_in hx
  have hz := zz_range h0.1 h0.2
  have hv := vb_length64 (n := (zz (rd L 0)).toNat) (by omega)
  have hv2 := vb_length64 (n := L.length) (by omega)
  have n1 := ref_number (k := k) (x := 128) (by omega) (by omega) (by omega)
  have n2 := ref_number (k := k) (x := 4) (by omega) (by omega) (by omega)
  have n3 := ref_number (k := k) (x := (L.length : Int)) (by omega) (by omega) (by omega)
  rw [show ((128 : Int)).toNat = 128 from rfl, e128] at n1
  rw [show ((4 : Int)).toNat = 4 from rfl, e4] at n2
  rw [show ((L.length : Int)).toNat = L.length from rfl] at n3
  unfold marquetryref13_Write.f
  rw [if_neg (by omega), n1, Option.bind_some, n2, Option.bind_some, if_pos (by decide), Option.bind_some, u64w, show (L.length : Int) % 18446744073709551616 = (L.length : Int) by omega, n3, Option.bind_some, if_pos (by simp; omega), Option.bind_some]
  unfold listB
  by_cases c : L.length = 0
  · rw [if_pos (by omega), if_pos (by simp; omega), if_pos c]
    simp
  · rw [if_neg (by omega), if_pos (by omega), if_neg c, ref_signed (by omega) h0.1 h0.2, Option.bind_some, if_pos (by simp; omega)]
    have := wr_l0 L hx hL (by omega) (([128, 1] ++ [4] ++ vb L.length) ++ vb (zz (rd L 0)).toNat) (by simp; omega) (L.length - 1) k 1 (by omega) (by omega) (by omega)
    rw [show difD L 1 (1 - 1) = [] from rfl, show (((1 : Nat)) : Int) = 1 from rfl] at this
    rw [this]
    simp
end Go.Proofs.Ytcdephhplmcmjaa.D13
end

section
namespace Go.Proofs.Ytcdephhplmcmjaa.X
open Go.RowKit Go.Proofs.YtcdephhplmcmjaaW.PrintWords Go.Proofs.YtcdephhplmcmjaaW.PrintLast Go.Proofs.YtcdephhplmcmjaaW.PrintMore
set_option linter.unusedVariables false
set_option linter.unusedSimpArgs false
theorem tn_long (l : List ByteArray) (hz : totZ l ≤ 1048576) (hl : l.length ≤ 65536) : ∀ (d k i : Nat) (n : Nat), i + d = l.length → d < k → n + totZ (l.drop i) = totZ l → marquetryref14_Long.l0 k l (n : Int) (i : Int) = some false
  | 0, k, i, n, h, hk, hn => by
    obtain ⟨k, rfl⟩ : ∃ j, k = j + 1 := ⟨k - 1, by omega⟩
    rw [marquetryref14_Long.l0, if_neg (by omega), if_neg (by omega)]
    exact congrArg some (decide_eq_false (by omega))
  | d + 1, k, i, n, h, hk, hn => by
    obtain ⟨k, rfl⟩ : ∃ j, k = j + 1 := ⟨k - 1, by omega⟩
    obtain ⟨s, hs⟩ : ∃ s, l[i]? = some s := ⟨_, List.getElem?_eq_getElem (by omega)⟩
    rw [drop_at hs, totZ] at hn
    have w1 : wrap64 ((n : Int) + (s.size : Int)) = ((n + s.size : Nat) : Int) := by rw [Bx.w64 (by omega) (by omega)]; omega
    have w2 : wrap64 ((i : Int) + 1) = ((i + 1 : Nat) : Int) := by rw [Bx.w64 (by omega) (by omega)]; omega
    rw [marquetryref14_Long.l0, if_pos (by omega), if_pos (by omega), if_pos (by omega), rdOf_some hs, w1, w2]
    exact tn_long l hz hl d k (i + 1) (n + s.size) (by omega) (by omega) (by omega)
theorem tn_long0 {k : Nat} {l : List ByteArray} (h : longZ l = false) (hk : 65537 ≤ k) : marquetryref14_Long.f k l = some false := by
  obtain ⟨h1, h2⟩ := longZ_no h
  exact tn_long l h1 h2 l.length k 0 0 (by omega) (by omega) (by rw [List.drop_zero]; omega)
theorem tn_conv (w : World) (s : ByteArray) (hs : s.size ≤ 9223372036854775807) : ReadsInt (Lib.bytesWorld w 5 s) .u8 (some ⟨w.heap.size, 0, none⟩) s.size (bytesOf s) := by
  refine ⟨bytesOf_length s, hs, fun _ => ⟨_, rfl, fun j hj => ?_⟩⟩
  have h := Lib.bytesWorld_cell w 5 s j hj
  have ha : (⟨w.heap.size, 0, none⟩ : Addr).add j = ⟨w.heap.size, j, none⟩ := by unfold Addr.add; split <;> simp_all
  rw [ha, h]
  unfold bytesOf
  have hj' : j < s.data.toList.length := by simpa using hj
  simp [List.getD_eq_getElem?_getD, List.getElem?_eq_getElem hj', List.getElem?_map]
theorem tn_below (w : World) (s : ByteArray) : Below w.heap.size w (Lib.bytesWorld w 5 s) :=
  ⟨rfl, rfl, rfl, by rw [Lib.bytesWorld_size]; omega, fun k hk => Lib.bytesWorld_at_old w _ s k hk⟩
structure TnI (w : World) (xs ys : List Int) (v1 v2 : Value) (W : World) : Prop where
  h1 : W.ownsRow w.heap.size 2 1 v1 xs.length (nums .i64 xs)
  h2 : W.ownsRow w.heap.size 5 1 v2 ys.length (nums .u8 ys)
  hb : Below w.heap.size w W
  hne : ∀ j, v1.ownBlock = some j → v2.ownBlock ≠ some j
theorem tn_other {w w1 : World} {base : Nat} {e : TypeId} {size n : Nat} {v : Value} {xs : List Value} (h : w.ownsRow base e size v n xs) {row : Option Nat} (hg : w.grownBy w1 row) (hne : ∀ j, row = some j → v.ownBlock ≠ some j) : w1.ownsRow base e size v n xs := by
  refine own_other h hg ?_
  cases hv : v.ownBlock with
  | none => exact .inl rfl
  | some j => exact .inr (fun e => hne j e.symm hv)
theorem tn_grow {w0 W w2 : World} {base : Nat} {row : Option Nat} (hb : Below base w0 w2) (hg : W.grownBy w2 row) (hr : ∀ j, row = some j → base ≤ j ∧ j < W.heap.size) (hs : base ≤ W.heap.size) : Below base W w2 :=
  (Below.refl base W).grown hg hs (fun r e => (hr r e).1)
theorem tn_len {w : World} {base n m c size : Nat} {e : TypeId} {A : Option Addr} {xs : List Value} (h : w.ownsRow base e size (.slice A m c) n xs) : m = n := by
  obtain ⟨A', c', h⟩ := own_formD h
  injection h with _ h2 _
theorem tn_far {W : World} {v1 v2 v3 : Value} (hne : ∀ j, v1.ownBlock = some j → v2.ownBlock ≠ some j) (a3 : v3.ownBlock = v1.ownBlock ∨ ∃ b, v3.ownBlock = some b ∧ W.heap.size ≤ b) (hW : ∀ j, v2.ownBlock = some j → j < W.heap.size) : ∀ j, v2.ownBlock = some j → v3.ownBlock ≠ some j := by
  intro j hj h3
  rcases a3 with e3 | ⟨b3, e3, hb3⟩
  · rw [e3] at h3; exact hne j h3 hj
  · rw [e3] at h3; cases h3; have := hW _ hj; omega
theorem tn_new {W W2 : World} {v1 v2 v3 v5 : Value} (hne : ∀ j, v1.ownBlock = some j → v2.ownBlock ≠ some j) (h3 : ∀ j, v3.ownBlock = some j → j < W2.heap.size) (a3 : v3.ownBlock = v1.ownBlock ∨ ∃ b, v3.ownBlock = some b ∧ W.heap.size ≤ b) (a5 : v5.ownBlock = v2.ownBlock ∨ ∃ b, v5.ownBlock = some b ∧ W2.heap.size ≤ b) (hW : ∀ j, v2.ownBlock = some j → j < W.heap.size) : ∀ j, v3.ownBlock = some j → v5.ownBlock ≠ some j := by
  intro j hj h5
  have hlt := h3 j hj
  rcases a5 with e5 | ⟨b, e5, hb⟩
  · rw [e5] at h5
    exact tn_far hne a3 hW j h5 hj
  · rw [e5] at h5; cases h5; omega
theorem tn_i64 {w : World} {W W' : World} {v : Value} {xs : List Int} (h : W.ownsRow w.heap.size 2 1 v xs.length (nums .i64 xs)) (hb : Below W.heap.size W W') : W'.ownsRow w.heap.size 2 1 v xs.length (nums .i64 xs) :=
  Kd.own_of_R (enc := Value.int .i64) (h1 := fun _ => rfl) (Kd.R_below (Kd.R_of_own (enc := Value.int .i64) (h1 := fun _ => rfl) (ok := fun _ => True) h (fun _ _ => trivial)) hb)
theorem tn_u8 {w : World} {W W' : World} {v : Value} {xs : List Int} (h : W.ownsRow w.heap.size 5 1 v xs.length (nums .u8 xs)) (hb : Below W.heap.size W W') : W'.ownsRow w.heap.size 5 1 v xs.length (nums .u8 xs) :=
  Kd.own_of_R (enc := Value.int .u8) (h1 := fun _ => rfl) (Kd.R_below (Kd.R_of_own (enc := Value.int .u8) (h1 := fun _ => rfl) (ok := fun _ => True) h (fun _ _ => trivial)) hb)
set_option maxRecDepth 100000 in
set_option maxHeartbeats 4000000 in
theorem tn_all (A : Option Addr) (c : Nat) (l : List ByteArray) (w : World) (hC : Kd.C Kd.string w A l.length l) (hc : l.length ≤ c) (hz : longZ l = false) :
    Calls Try.prog 14 #[.slice A l.length c] w fun e w' => ∃ v, e = .returned (.tuple #[v, .int .i64 0]) ∧ w'.ownsRow w.heap.size 5 1 v (lengthsZ l).1.length (nums .u8 (lengthsZ l).1) ∧ Below w.heap.size w w' := by
  have HC := Aside0.mk hC
  have HLO := Aside0.mk (marquetryref14_Long.calls 65537 A c l false w hC hc (tn_long0 hz (by omega)))
  obtain ⟨z1, z2⟩ := longZ_no hz
  have hin : ∀ x ∈ lensZ l, D13.inI x := lensZ_inI (by omega)
  have HW := Aside0.mk (fun (W : World) (Al : Option Addr) (cl : Nat) (h : Kd.C (Kd.int .i64) W Al (lensZ l).length (lensZ l)) (hcl : (lensZ l).length ≤ cl) => marquetryref13_Write.calls 80000 Al cl (lensZ l) (D13.listB (lensZ l)) 0 W h hcl (D13.ref_write (by rw [lensZ_length]; omega) hin (by rw [lensZ_length]; omega)))
  have HBS := Aside0.mk (show (D13.listB (lensZ l)).length ≤ 700000 from D13.listB_short hin (by rw [lensZ_length]; omega))
  have HFL := Aside0.mk (flatZ_length l)
  have hzz : ∀ i, (flatZ (l.take i)).length ≤ 1048576 := fun i => by rw [flatZ_length]; have := totZ_take l i; omega
  have HZZ := Aside0.mk hzz
  have hss : ∀ (i : Nat) (s : ByteArray), l[i]? = some s → s.size ≤ 1048576 := fun i s h => by have := totZ_at h; omega
  have HSS := Aside0.mk hss
  rw [lengthsZ_fine hz]
  simp only []
  clear hC hin hzz hss hz
  go_enter Try.func14, Try.ntmps14
  go_wp2_with fail
  refine HLO.out.mono ?_
  rintro e W0 ⟨rfl, ⟨nd, hnd⟩⟩
  have HB0 := Aside0.mk (show Below w.heap.size w W0 from (by rw [hnd]; exact pw_below_drewN (Below.refl _ _) _))
  clear hnd HLO
  go_wp2
  go_loopw [4, 5, 6] (fun v4 v5 v6 wr => ∃ (i : Nat) (xs ys : List Int) (A1 A2 : Option Addr) (c1 c2 : Nat), v4 = .slice A1 xs.length c1 ∧ v5 = .slice A2 ys.length c2 ∧ v6 = .int .i64 i ∧ i ≤ l.length ∧ Aside0 (xs = lensZ (l.take i) ∧ ys = flatZ (l.take i)) ∧ Aside0 (TnI w xs ys (.slice A1 xs.length c1) (.slice A2 ys.length c2) wr)) (fun _ _ v6 _ => l.length - (intOf v6).toNat)
  case atStart => exact ⟨0, [], [], none, none, 0, 0, rfl, rfl, rfl, Nat.zero_le _, ⟨rfl, rfl⟩, ⟨World.ownsRow_nil _ _ _ _, World.ownsRow_nil _ _ _ _, HB0.out, fun j h => by cases h⟩⟩
  case round =>
    obtain ⟨i, xs, ys, A1, A2, c1, c2, rfl, rfl, rfl, hi, HE, HI⟩ := hrel
    by_cases ci : i < l.length
    · have q1 : decide ((i : Int) < (l.length : Int)) = true := decide_eq_true (by omega)
      have q2 : decide (i < l.length) = true := decide_eq_true ci
      obtain ⟨s, hs⟩ : ∃ s, l[i]? = some s := ⟨_, List.getElem?_eq_getElem ci⟩
      obtain ⟨ad, rfl, hcell⟩ := str_at (Kd.C_below HC.out HI.out.hb) hs
      have hsz := HSS.out i s hs
      have hxl : xs.length = i := by rw [HE.out.1, lensZ_length, List.length_take]; omega
      have hyl : ys.length ≤ 1048576 := by rw [HE.out.2]; exact HZZ.out i
      have HLN := Aside0.mk (show (xs.length + 1) * 8 ≤ 140737488355328 ∧ (ys.length + s.size) * 1 ≤ 140737488355328 ∧ s.size ≤ 9223372036854775807 by omega)
      have hcell2 : ∀ w', Below w.heap.size wr w' → w'.cell? (ad.add i) = some (.string s) := fun w' h => by
        obtain ⟨a1, q1, z1⟩ := str_at (Kd.C_below HC.out (HI.out.hb.trans h)) hs
        obtain rfl : ad = a1 := by simpa using q1
        exact z1
      have HCL := Aside0.mk hcell2
      have HSZ := Aside0.mk HI.out.hb.size
      have HCI := Aside0.mk ci
      have HT1 := Aside0.mk (lensZ_take l i s hs)
      have HT2 := Aside0.mk (flatZ_take l i s hs)
      have p1 : (0 : Int) ≤ (i : Int) := by omega
      have p2 : (i : Int) < (l.length : Int) := by omega
      have p3 : ((i : Int)).toNat = i := rfl
      have hcv := fun W => Lib.run_convert_string_bytes (P := Try.prog) W 9 25 5 s Try.underlying9 Try.underlying25 Try.underlying5
      clear hs hcell2 hxl hyl hi hsz ci
      go_wp2_with (first
        | ((with_reducible refine gate_builtin (b := .append) (xs := #[.tmp 17, .tmp 23]) rfl ?_); at_builtin; refine print_append_num (w0 := w) w.heap.size rfl (.tmp 17) (.tmp 23) 44 2 .i64 8 rfl Try.underlying44 dl_info (by decide) (.slice A1 xs.length c1) xs (s.size : Int) rfl rfl HI.out.h1 HI.out.hb HSZ.out HLN.out.1 ?_; intro v2 w2 ho2 hb2 hg2 hat2; obtain ⟨A3, m3, c3, rfl⟩ : ∃ A3 m3 c3, v2 = .slice A3 m3 c3 := (by obtain ⟨A, c, h⟩ := own_formD ho2; exact ⟨_, _, _, h⟩); have HO3 := Aside0.mk ho2; have HB3 := Aside0.mk hb2; have HO4 := Aside0.mk (tn_other HI.out.h2 hg2 HI.out.hne); have HAT3 := Aside0.mk hat2; have HS3 := Aside0.mk hb2.size; have hcell := HCL.out w2 (tn_grow hb2 hg2 (World.ownsRow.lt HI.out.h1) HI.out.hb.size); have HG3 := Aside0.mk hg2; clear ho2 hb2 hg2 hat2)
        | ((with_reducible refine gate_builtin (b := .append) (xs := #[.tmp 25, .tmp 30]) rfl ?_); at_builtin; have HBw := Aside0.mk (below_then HB3.out HS3.out (tn_below w2 s)); refine print_append_row (w0 := w) w.heap.size rfl (.tmp 25) (.tmp 30) 25 5 .u8 1 rfl Try.underlying25 dg_info (by decide) (.slice A2 ys.length c2) ys (bytesOf s) _ s.size _ rfl rfl (tn_u8 HO4.out (tn_below w2 s)) (tn_conv w2 s HLN.out.2.2) HBw.out HBw.out.size HLN.out.2.1 ?_; intro v5 w5 ho5 hb5 hg5 hat5; obtain ⟨A6, m6, c6, rfl⟩ : ∃ A6 m6 c6, v5 = .slice A6 m6 c6 := (by obtain ⟨A, c, h⟩ := own_formD ho5; exact ⟨_, _, _, h⟩); have HO6 := Aside0.mk ho5; have HB6 := Aside0.mk hb5; have HG6 := Aside0.mk hg5; have HAT6 := Aside0.mk hat5; clear ho5 hb5 hg5 hat5))
      have hW := fun j hj => (World.ownsRow.lt HI.out.h2 j hj).2
      have HO3' := tn_i64 HO3.out (tn_below w2 s)
      have hnew := tn_new (W := wr) (W2 := Lib.bytesWorld w2 5 s) HI.out.hne (fun j hj => (World.ownsRow.lt HO3' j hj).2) HAT3.out HAT6.out hW
      have HO7 := tn_other HO3' HG6.out (tn_far (W := wr) HI.out.hne HAT3.out hW)
      have hm3 := tn_len HO3.out
      have hm6 := tn_len HO6.out
      subst hm3 hm6
      have HE2 := Aside0.mk (show TnI w (xs ++ [(s.size : Int)]) (ys ++ bytesOf s) (.slice A3 (xs ++ [(s.size : Int)]).length c3) (.slice A6 (ys ++ bytesOf s).length c6) w5 from ⟨HO7, HO6.out, HB6.out, hnew⟩)
      have hwi : IntKind.i64.wrap ((i : Int) + 1) = (i : Int) + 1 := IntWalk.i64_in _ (by have := HCI.out; omega)
      go_wp2
      go_roundw
      case rel =>
        refine ⟨i + 1, xs ++ [(s.size : Int)], ys ++ bytesOf s, A3, A6, c3, c6, rfl, rfl, by go_num, HCI.out, ⟨?_, ?_⟩, HE2⟩
        · rw [HT1.out, HE.out.1]
        · rw [HT2.out, HE.out.2]
      case measure => have := HCI.out; simp [intOf]; omega
    · have hie : i = l.length := by omega
      have q1 : decide ((i : Int) < (l.length : Int)) = false := decide_eq_false (by omega)
      have q2 : decide (i < l.length) = false := decide_eq_false ci
      obtain ⟨hxs, hys⟩ := HE.out
      rw [hie, List.take_of_length_le (Nat.le_refl _)] at hxs hys
      have HEQ := Aside0.mk (show D13.listB (lensZ l) ++ flatZ l = D13.listB xs ++ ys by rw [hxs, hys])
      rw [← hxs] at HW HBS
      rw [← hys] at HFL
      obtain ⟨k1, k2, k3⟩ := Kd.R_reads' (Kd.R_of_own (enc := Value.int .i64) (h1 := fun _ => rfl) (ok := fun _ => True) HI.out.h1 (fun _ _ => trivial))
      have HK1 := Aside0.mk k2
      have HK3 := Aside0.mk k3
      have HJ := Aside0.mk HI.out.h2
      have HB := Aside0.mk HI.out.hb
      have HZ1 := Aside0.mk z1
      obtain ⟨lb, hlb⟩ : ∃ lb, lb = D13.listB xs := ⟨_, rfl⟩
      rw [← hlb] at HW HBS HEQ
      clear hxs hys hlb k1 k2 k3 HI HE hie hi ci z1 z2
      go_wp2_with fail
      refine (HW.out _ _ _ HK3.out HK1.out).mono ?_
      rintro e W3 ⟨v3, rfl, hR3, hb3⟩
      obtain ⟨A7, c7, rfl⟩ := Kd.R_slice hR3
      have HB3 := Aside0.mk (below_then HB.out HB.out.size hb3)
      have HS3 := Aside0.mk HB3.out.size
      have HO3 := Aside0.mk (show W3.ownsRow w.heap.size 5 1 (.slice A7 lb.length c7) lb.length (nums .u8 lb) from Kd.own_of_R (enc := Value.int .u8) (h1 := fun _ => rfl) (Kd.R_lower hR3 HB.out.size))
      have HJ3 := Aside0.mk (Kd.R_reads' (Kd.R_of_own (enc := Value.int .u8) (h1 := fun _ => rfl) (ok := fun _ => True) (tn_u8 HJ.out hb3) (fun _ _ => trivial))).2.2
      clear hR3 hb3
      go_wp2_with (first
        | ((with_reducible refine gate_builtin (b := .append) (xs := #[.tmp 37, .tmp 38]) rfl ?_); at_builtin; refine print_append_row (w0 := w) w.heap.size rfl (.tmp 37) (.tmp 38) 25 5 .u8 1 rfl Try.underlying25 dg_info (by decide) _ lb ys A2 ys.length c2 rfl rfl HO3.out (Kd.reads_of_C HJ3.out) HB3.out HS3.out (by have := HBS.out; have := HFL.out; have := HZ1.out; omega) ?_; intro v8 w8 ho8 hb8 hg8 hat8; have HO8 := Aside0.mk ho8; have HB8 := Aside0.mk hb8; clear ho8 hb8 hg8 hat8))
      go_ret2
      rw [HEQ.out]
      exact ⟨_, rfl, HO8.out, HB8.out⟩
end Go.Proofs.Ytcdephhplmcmjaa.X
end

section
namespace Go.Proofs.Ytcdephhplmcmjaa.X
open Go.RowKit Go.Proofs.YtcdephhplmcmjaaW.PrintWords Go.Proofs.YtcdephhplmcmjaaW.PrintLast Go.Proofs.YtcdephhplmcmjaaW.PrintMore
attribute [local go_sem] max2_int min2_int max_two min_two max_three min_three max_four min_four
set_option linter.unusedVariables false
set_option linter.unusedSimpArgs false
def marquetryref14_Lengths.f (l0 : List ByteArray) : Option (List Int × Int) := if longZ l0 = false then some ((lengthsZ l0).1, 0) else none
theorem marquetryref14_Lengths.calls (A0 : Option Addr) (c0 : Nat) (l0 : List ByteArray) (r1 : List Int) (r2 : Int) (w : World) (hr0 : Kd.C Kd.string w A0 l0.length l0) (hc0 : l0.length ≤ c0) (h : marquetryref14_Lengths.f l0 = some (r1, r2)) :
    Calls Try.prog 14 #[.slice A0 l0.length c0] w fun e w' => ∃ v0_ : Value, e = .returned (.tuple #[v0_, .int .i64 r2]) ∧ Kd.R (Kd.int .u8) 5 w' w.heap.size (fun _ => True) v0_ r1 ∧ Below w.heap.size w w' := by
  unfold marquetryref14_Lengths.f at h
  by_cases hu : longZ l0 = false
  · rw [if_pos hu] at h
    obtain ⟨rfl, rfl⟩ := Prod.mk.inj (Option.some.inj h)
    refine (tn_all A0 c0 l0 w hr0 hc0 hu).mono ?_
    rintro e w' ⟨v, rfl, ho, hb⟩
    exact ⟨v, rfl, Kd.R_of_own (enc := Value.int .u8) (h1 := fun _ => rfl) ho (fun _ _ => trivial), hb⟩
  · rw [if_neg hu] at h; cases h
end Go.Proofs.Ytcdephhplmcmjaa.X
end

section
namespace Go.Proofs.Ytcdephhplmcmjaa.X
open Go.RowKit Go.Proofs.YtcdephhplmcmjaaW.PrintWords Go.Proofs.YtcdephhplmcmjaaW.PrintLast Go.Proofs.YtcdephhplmcmjaaW.PrintMore
attribute [local go_sem] max2_int min2_int max_two min_two max_three min_three max_four min_four
attribute [-simp] ByteArray.extract_zero_size
set_option linter.unusedVariables false
set_option linter.unusedSimpArgs false
def marquetryref14_Prefixes.l0 : Nat → List ByteArray → List Int → List ByteArray → Int → Option (List Int × Int)
 | 0, _, _, _, _ => none
 | k + 1, x0, x4, x5, x6 => if x6 < (x0.length : Int) then (if x6 > 0 then (if 0 ≤ (wrap64 (x6 - 1)) then (if (wrap64 (x6 - 1)) < (x0.length : Int) then (if 0 ≤ x6 then ((marquetryref14_Common.f k (rdOf ByteArray.empty x0 (wrap64 (x6 - 1))) (rdOf ByteArray.empty x0 x6)).bind fun t256 => (if x4.length < 17592186044416 then (if 0 ≤ t256 then (if t256 ≤ ((rdOf ByteArray.empty x0 x6).size : Int) then (if x5.length < 8796093022208 then (marquetryref14_Prefixes.l0 k x0 (x4 ++ [t256]) (x5 ++ [(rdOf ByteArray.empty x0 x6).extract (t256 : Int).toNat (rdOf ByteArray.empty x0 x6).size]) (wrap64 (x6 + 1))) else (none)) else (none)) else (none)) else (none))) else (none)) else (none)) else (none)) else (if x4.length < 17592186044416 then (if 0 ≤ x6 then (if 0 ≤ ((rdOf ByteArray.empty x0 x6).size : Int) then (if x5.length < 8796093022208 then (marquetryref14_Prefixes.l0 k x0 (x4 ++ [0]) (x5 ++ [(rdOf ByteArray.empty x0 x6).extract 0 (rdOf ByteArray.empty x0 x6).size]) (wrap64 (x6 + 1))) else (none)) else (none)) else (none)) else (none))) else ((marquetryref13_Write.f k x4).bind fun bt271 => ((marquetryref14_Lengths.f x5).bind fun bt275 => (if bt271.1.length + bt275.1.length < 140737488355328 then (some ((bt271.1 ++ bt275.1), 0)) else (none))))
def marquetryref14_Prefixes.f (k : Nat) (l0 : List ByteArray) : Option (List Int × Int) := (marquetryref14_Long.f k l0).bind fun t253 => (if t253 = true then (some (([] : List Int), 3)) else (marquetryref14_Prefixes.l0 k l0 ([] : List Int) ([] : List ByteArray) 0))
theorem marquetryref14_Prefixes.mono_l : ∀ k, (∀ y0 y1 y2 y3, LeO (marquetryref14_Prefixes.l0 k y0 y1 y2 y3) (marquetryref14_Prefixes.l0 (k + 1) y0 y1 y2 y3))
 | 0 => fun _ _ _ _ r h => by simp [marquetryref14_Prefixes.l0] at h
 | k + 1 => by
  have ih0 := marquetryref14_Prefixes.mono_l k
  ·intro y0 y1 y2 y3
   unfold marquetryref14_Prefixes.l0
   repeat' first
   | (with_reducible exact ih0 _ _ _ _)
   | (with_reducible exact marquetryref13_Write.mono _ _)
   | (with_reducible exact marquetryref14_Common.mono _ _ _)
   | (with_reducible exact marquetryref14_Long.mono _ _)
   | (with_reducible exact LeO.refl _)
   | (with_reducible exact LeO.none _)
   | (with_reducible refine LeO.ite ?_ ?_)
   | (with_reducible refine LeO.bind ?_ (fun _ => ?_))
   | exact ih0 _ _ _ _
   | exact marquetryref13_Write.mono _ _
   | exact marquetryref14_Common.mono _ _ _
   | exact marquetryref14_Long.mono _ _
   | exact LeO.none _
   | refine LeO.ite ?_ ?_
   | refine LeO.bind ?_ (fun _ => ?_)
theorem marquetryref14_Prefixes.mono : ∀ a0 k, LeO (marquetryref14_Prefixes.f k a0) (marquetryref14_Prefixes.f (k + 1) a0) := by
 intro a0 k
 have ih0 := marquetryref14_Prefixes.mono_l k
 unfold marquetryref14_Prefixes.f
 repeat' first
   | (with_reducible exact ih0 _ _ _ _)
   | (with_reducible exact marquetryref13_Write.mono _ _)
   | (with_reducible exact marquetryref14_Common.mono _ _ _)
   | (with_reducible exact marquetryref14_Long.mono _ _)
   | (with_reducible exact LeO.refl _)
   | (with_reducible exact LeO.none _)
   | (with_reducible refine LeO.ite ?_ ?_)
   | (with_reducible refine LeO.bind ?_ (fun _ => ?_))
   | exact ih0 _ _ _ _
   | exact marquetryref13_Write.mono _ _
   | exact marquetryref14_Common.mono _ _ _
   | exact marquetryref14_Long.mono _ _
   | exact LeO.none _
   | refine LeO.ite ?_ ?_
   | refine LeO.bind ?_ (fun _ => ?_)
set_option maxHeartbeats 8000000 in
set_option maxRecDepth 100000 in
theorem marquetryref14_Prefixes.calls (k : Nat) (A0 : Option Addr) (c0 : Nat) (l0 : List ByteArray) (r1 : List Int) (r2 : Int) (w : World) (hr0 : Kd.C Kd.string w A0 l0.length l0) (hc0 : l0.length ≤ c0) (h : marquetryref14_Prefixes.f k l0 = some (r1, r2)) :
  Calls Try.prog 15 #[.slice A0 l0.length c0] w fun e w' => ∃ v0_ : Value, e = .returned (.tuple #[v0_, .int .i64 r2]) ∧ Kd.R (Kd.int .u8) 5 w' w.heap.size (fun _ => True) v0_ r1 ∧ Below w.heap.size w w' := by
 have HR0 := Aside0.mk hr0
 have HC0 := Aside0.mk hc0
 clear hr0 hc0
 have HB := Aside0.mk (Below.refl w.heap.size w)
 have H : ((marquetryref14_Long.f k l0).bind fun t253 => (if t253 = true then (some (([] : List Int), 3)) else (marquetryref14_Prefixes.l0 k l0 ([] : List Int) ([] : List ByteArray) 0))) = some (r1, r2) := h
 clear h
 replace H := Option.bind_eq_some_iff.mp H
 obtain ⟨t253, A20, H⟩ := H
 replace H : (if t253 = true then (some (([] : List Int), 3)) else (marquetryref14_Prefixes.l0 k l0 ([] : List Int) ([] : List ByteArray) 0)) = some (r1, r2) := H
 have A2 := Aside0.mk A20
 clear A20
 by_cases c3 : t253 = true
 ·subst c3
  have H1 : (some (([] : List Int), 3)) = some (r1, r2) := by rw [if_pos rfl] at H; exact H
  clear H
  have H := H1
  clear H1
  simp only [Option.some.injEq, Prod.mk.injEq] at H
  obtain ⟨rfl, rfl⟩ := H
  go_enter Try.func15, Try.ntmps15
  go_wp2_with (first | (go_at_call 33; (with_reducible refine (marquetryref14_Long.calls k _ _ l0 true _ ?side1 ?side2 A2.out).mono ?_); (case side1 => repeat (first | exact HR0.out | (with_reducible refine Kd.C_alloc ?_ _) | (with_reducible refine Kd.C_drewN ?_ _) | (with_reducible refine Kd.C_drew ?_))); (case side2 => exact HC0.out); rintro e w' ⟨rfl, ⟨nd, rfl⟩⟩; (try first | exact ⟨rfl, _, World.drewN_drewN _ _ _⟩ | exact ⟨rfl, _, Eq.trans (World.drewN_drewN _ _ _) (congrArg (World.drewN _) (Nat.add_assoc _ _ _))⟩)))
  repeat (go_quiet (first | (go_at_call 33; (with_reducible refine (marquetryref14_Long.calls k _ _ l0 true _ ?side1 ?side2 A2.out).mono ?_); (case side1 => repeat (first | exact HR0.out | (with_reducible refine Kd.C_alloc ?_ _) | (with_reducible refine Kd.C_drewN ?_ _) | (with_reducible refine Kd.C_drew ?_))); (case side2 => exact HC0.out); rintro e w' ⟨rfl, ⟨nd, rfl⟩⟩; (try first | exact ⟨rfl, _, World.drewN_drewN _ _ _⟩ | exact ⟨rfl, _, Eq.trans (World.drewN_drewN _ _ _) (congrArg (World.drewN _) (Nat.add_assoc _ _ _))⟩))); try go_wp2_with (first | (go_at_call 33; (with_reducible refine (marquetryref14_Long.calls k _ _ l0 true _ ?side1 ?side2 A2.out).mono ?_); (case side1 => repeat (first | exact HR0.out | (with_reducible refine Kd.C_alloc ?_ _) | (with_reducible refine Kd.C_drewN ?_ _) | (with_reducible refine Kd.C_drew ?_))); (case side2 => exact HC0.out); rintro e w' ⟨rfl, ⟨nd, rfl⟩⟩; (try first | exact ⟨rfl, _, World.drewN_drewN _ _ _⟩ | exact ⟨rfl, _, Eq.trans (World.drewN_drewN _ _ _) (congrArg (World.drewN _) (Nat.add_assoc _ _ _))⟩))))
  go_ret2
  exact ⟨_, by first | rfl | (simp [errW_none, errW_some] <;> rfl) | (simp [*, errW_none, errW_some] <;> rfl), by first | exact Kd.R_nil _ _ _ _ _ | exact Kd.N_nil _ _ _ _ _ | exact Kd.V_nil _ _ _ _ _ | exact Kd.Q_nil _ _ _ _ _ | exact Kd.S_nil _ _ _ _ _, by repeat (first | (with_reducible first | exact HB.out | apply below_alloc | apply pw_below_drewN | apply below_drew1) | exact HB.out)⟩
 ·replace c3 := Bool.eq_false_iff.mpr c3
  subst c3
  have H1 : (marquetryref14_Prefixes.l0 k l0 ([] : List Int) ([] : List ByteArray) 0) = some (r1, r2) := by rw [if_neg (show ¬ (false = true) by decide)] at H; exact H
  clear H
  have H := H1
  clear H1
  have H' := Aside0.mk H
  clear H
  go_enter Try.func15, Try.ntmps15
  go_wp2_with (first | (go_at_call 33; (with_reducible refine (marquetryref14_Long.calls k _ _ l0 false _ ?side1 ?side2 A2.out).mono ?_); (case side1 => repeat (first | exact HR0.out | (with_reducible refine Kd.C_alloc ?_ _) | (with_reducible refine Kd.C_drewN ?_ _) | (with_reducible refine Kd.C_drew ?_))); (case side2 => exact HC0.out); rintro e w' ⟨rfl, ⟨nd, rfl⟩⟩; (try first | exact ⟨rfl, _, World.drewN_drewN _ _ _⟩ | exact ⟨rfl, _, Eq.trans (World.drewN_drewN _ _ _) (congrArg (World.drewN _) (Nat.add_assoc _ _ _))⟩)))
  repeat (go_quiet (first | (go_at_call 33; (with_reducible refine (marquetryref14_Long.calls k _ _ l0 false _ ?side1 ?side2 A2.out).mono ?_); (case side1 => repeat (first | exact HR0.out | (with_reducible refine Kd.C_alloc ?_ _) | (with_reducible refine Kd.C_drewN ?_ _) | (with_reducible refine Kd.C_drew ?_))); (case side2 => exact HC0.out); rintro e w' ⟨rfl, ⟨nd, rfl⟩⟩; (try first | exact ⟨rfl, _, World.drewN_drewN _ _ _⟩ | exact ⟨rfl, _, Eq.trans (World.drewN_drewN _ _ _) (congrArg (World.drewN _) (Nat.add_assoc _ _ _))⟩))); try go_wp2_with (first | (go_at_call 33; (with_reducible refine (marquetryref14_Long.calls k _ _ l0 false _ ?side1 ?side2 A2.out).mono ?_); (case side1 => repeat (first | exact HR0.out | (with_reducible refine Kd.C_alloc ?_ _) | (with_reducible refine Kd.C_drewN ?_ _) | (with_reducible refine Kd.C_drew ?_))); (case side2 => exact HC0.out); rintro e w' ⟨rfl, ⟨nd, rfl⟩⟩; (try first | exact ⟨rfl, _, World.drewN_drewN _ _ _⟩ | exact ⟨rfl, _, Eq.trans (World.drewN_drewN _ _ _) (congrArg (World.drewN _) (Nat.add_assoc _ _ _))⟩))))
  go_loopg [4, 5, 6] k (fun kq v4 v5 v6 w' => ∃ (x4_1 : List Int) (x5_1 : List ByteArray) (x6_1 : Int), v6 = .int .i64 x6_1 ∧ Aside0 (marquetryref14_Prefixes.l0 kq l0 x4_1 x5_1 x6_1 = some (r1, r2)) ∧ Aside0 (kq ≤ k) ∧ Aside0 (Kd.R (Kd.int .i64) 2 w' w.heap.size (fun _ => True) v4 x4_1) ∧ Aside0 (Kd.R Kd.string 9 w' w.heap.size (fun _ => True) v5 x5_1) ∧ Aside0 (Below w.heap.size w w'))
  case atStart => exact ⟨(([] : List Int)), (([] : List ByteArray)), (0), (by first | rfl | (simp; done) | (simp [*]; done)), H', ⟨Nat.le_refl _⟩, ⟨by first | exact Kd.R_nil _ _ _ _ _ | exact Kd.N_nil _ _ _ _ _ | exact Kd.V_nil _ _ _ _ _ | exact Kd.Q_nil _ _ _ _ _ | exact Kd.S_nil _ _ _ _ _⟩, ⟨by first | exact Kd.R_nil _ _ _ _ _ | exact Kd.N_nil _ _ _ _ _ | exact Kd.V_nil _ _ _ _ _ | exact Kd.Q_nil _ _ _ _ _ | exact Kd.S_nil _ _ _ _ _⟩, ⟨by repeat (first | (with_reducible first | exact HB.out | apply below_alloc | apply pw_below_drewN | apply below_drew1) | exact HB.out)⟩⟩
  case round =>
   clear H'
   try clear c1
   try clear p2
   try clear c3
   obtain ⟨x4_1, x5_1, x6_1, rfl, HA, HK1, HO_4, HO_5, HB⟩ := hrel
   cases gk with
   | zero => exact absurd HA.out (by simp [marquetryref14_Prefixes.l0])
   | succ k1 =>
    have H := HA.out
    clear HA
    simp only [marquetryref14_Prefixes.l0] at H
    by_cases c4 : x6_1 < (l0.length : Int)
    ·rw [if_pos c4] at H
     have c4b0 : decide (x6_1 < (l0.length : Int)) = true := decide_eq_true c4
     clear c4
     by_cases c5 : x6_1 > 0
     ·rw [if_pos c5] at H
      have c5b0 : decide (0 < x6_1) = true := decide_eq_true c5
      clear c5
      obtain ⟨ji6, hji6⟩ : ∃ j_ : Int, (wrap64 (x6_1 - 1)) = j_ := ⟨_, rfl⟩
      replace H : (if 0 ≤ (ji6) then (if (ji6) < (l0.length : Int) then (if 0 ≤ x6_1 then ((marquetryref14_Common.f k1 (rdOf ByteArray.empty l0 (ji6)) (rdOf ByteArray.empty l0 x6_1)).bind fun t256 => (if x4_1.length < 17592186044416 then (if 0 ≤ t256 then (if t256 ≤ ((rdOf ByteArray.empty l0 x6_1).size : Int) then (if x5_1.length < 8796093022208 then (marquetryref14_Prefixes.l0 k1 l0 (x4_1 ++ [t256]) (x5_1 ++ [(rdOf ByteArray.empty l0 x6_1).extract (t256 : Int).toNat (rdOf ByteArray.empty l0 x6_1).size]) (wrap64 (x6_1 + 1))) else (none)) else (none)) else (none)) else (none))) else (none)) else (none)) else (none)) = some (r1, r2) := by first | (rw [hji6] at H; exact H) | (simp only [hji6] at H ⊢; exact H)
      have hji6w : (IntKind.i64.wrap (x6_1 - 1)) = ji6 := (i64_w _).trans hji6
      by_cases c7 : 0 ≤ (ji6)
      ·rw [if_pos c7] at H
       have c7b0 : decide (0 ≤ (ji6)) = true := decide_eq_true c7
       clear c7
       by_cases c8 : (ji6) < (l0.length : Int)
       ·rw [if_pos c8] at H
        have c8b0 : decide ((ji6) < (l0.length : Int)) = true := decide_eq_true c8
        clear c8
        by_cases c9 : 0 ≤ x6_1
        ·rw [if_pos c9] at H
         have c9b0 : decide (0 ≤ x6_1) = true := decide_eq_true c9
         clear c9
         replace H := Option.bind_eq_some_iff.mp H
         obtain ⟨t256, A100, H⟩ := H
         replace H : (if x4_1.length < 17592186044416 then (if 0 ≤ t256 then (if t256 ≤ ((rdOf ByteArray.empty l0 x6_1).size : Int) then (if x5_1.length < 8796093022208 then (marquetryref14_Prefixes.l0 k1 l0 (x4_1 ++ [t256]) (x5_1 ++ [(rdOf ByteArray.empty l0 x6_1).extract (t256 : Int).toNat (rdOf ByteArray.empty l0 x6_1).size]) (wrap64 (x6_1 + 1))) else (none)) else (none)) else (none)) else (none)) = some (r1, r2) := H
         have A10 := Aside0.mk A100
         clear A100
         by_cases c11 : x4_1.length < 17592186044416
         ·rw [if_pos c11] at H
          have LMc11 := Aside0.mk c11
          clear c11
          obtain ⟨y257, hy257⟩ : ∃ y_ : List Int, y_ = (x4_1 ++ [t256]) := ⟨_, rfl⟩
          replace H : (if 0 ≤ t256 then (if t256 ≤ ((rdOf ByteArray.empty l0 x6_1).size : Int) then (if x5_1.length < 8796093022208 then (marquetryref14_Prefixes.l0 k1 l0 y257 (x5_1 ++ [(rdOf ByteArray.empty l0 x6_1).extract (t256 : Int).toNat (rdOf ByteArray.empty l0 x6_1).size]) (wrap64 (x6_1 + 1))) else (none)) else (none)) else (none)) = some (r1, r2) := by first | (rw [hy257]; with_reducible exact H) | (have H2_ := (Option.bind_some _ _).symm.trans H; rw [hy257]; with_reducible exact H2_) | (have H2_ := (Option.bind_some _ _).symm.trans H; with_reducible exact H2_) | with_reducible exact H | (rw [hy257]; exact H) | exact H
          have Ny257 := Aside0.mk hy257
          clear hy257
          by_cases c12 : 0 ≤ t256
          ·rw [if_pos c12] at H
           have c12b0 := eq_true c12
           have c12b1 : decide (0 ≤ t256) = true := decide_eq_true c12
           clear c12
           by_cases c13 : t256 ≤ ((rdOf ByteArray.empty l0 x6_1).size : Int)
           ·rw [if_pos c13] at H
            have c13b0 := eq_true c13
            have c13b1 : decide (t256 ≤ ((rdOf ByteArray.empty l0 x6_1).size : Int)) = true := decide_eq_true c13
            clear c13
            by_cases c14 : x5_1.length < 8796093022208
            ·rw [if_pos c14] at H
             have LMc14 := Aside0.mk c14
             clear c14
             obtain ⟨y261, hy261⟩ : ∃ y_ : List ByteArray, y_ = (x5_1 ++ [(rdOf ByteArray.empty l0 x6_1).extract (t256 : Int).toNat (rdOf ByteArray.empty l0 x6_1).size]) := ⟨_, rfl⟩
             replace H : (marquetryref14_Prefixes.l0 k1 l0 y257 y261 (wrap64 (x6_1 + 1))) = some (r1, r2) := by first | (rw [hy261]; with_reducible exact H) | (have H2_ := (Option.bind_some _ _).symm.trans H; rw [hy261]; with_reducible exact H2_) | (have H2_ := (Option.bind_some _ _).symm.trans H; with_reducible exact H2_) | with_reducible exact H | (rw [hy261]; exact H) | exact H
             have Ny261 := Aside0.mk hy261
             clear hy261
             have H' := Aside0.mk H
             clear H
             have p254 : 0 ≤ ((ji6) : Int) := of_decide_eq_true (by first | (with_reducible assumption) | assumption)
             have q254 : (ji6) < (l0.length : Int) := of_decide_eq_true (by first | (with_reducible assumption) | assumption)
             obtain ⟨ad254, e254, hx254_0⟩ := Kd.at_string HR0.out (ji6) p254 q254
             cases e254
             replace hx254_0 := (HB.out.cell (World.block_lt_of_cell? w _ hx254_0)).trans hx254_0
             replace p254 := eq_true p254
             replace q254 := eq_true q254
             have p255 : 0 ≤ (x6_1 : Int) := of_decide_eq_true (by first | (with_reducible assumption) | assumption)
             have q255 : x6_1 < (l0.length : Int) := of_decide_eq_true (by first | (with_reducible assumption) | assumption)
             obtain ⟨ad255, e255, hx255_0⟩ := Kd.at_string HR0.out x6_1 p255 q255
             obtain rfl : ad254 = ad255 := (by injection e255)
             replace hx255_0 := (HB.out.cell (World.block_lt_of_cell? w _ hx255_0)).trans hx255_0
             replace p255 := eq_true p255
             replace q255 := eq_true q255
             go_wp2_with (first | (go_at_call 25; (with_reducible refine (marquetryref14_Common.calls k1 (rdOf ByteArray.empty l0 (ji6)) (rdOf ByteArray.empty l0 x6_1) t256 _ A10.out).mono ?_); rintro e w' ⟨rfl, ⟨nd, rfl⟩⟩; (try first | exact ⟨rfl, _, World.drewN_drewN _ _ _⟩ | exact ⟨rfl, _, Eq.trans (World.drewN_drewN _ _ _) (congrArg (World.drewN _) (Nat.add_assoc _ _ _))⟩)) | ((with_reducible refine gate_builtin (b := .append) (xs := #[.tmp 32, .tmp 34]) rfl ?_); at_builtin; refine Kd.R_append (Kd.int .i64) (w0 := w) w.heap.size rfl (.tmp 32) (.tmp 34) 44 2 (.int .i64 0) 8 rfl Try.underlying44 info2 rfl (by decide) (by omega) u4 x4_1 t256 [.int .i64 t256] (fun _ => True) (fun _ => False) rfl rfl ?aP (fun _ hk => hk.elim) ?aF ?aO ?aB ?aS ?aL ?_; (case aP => exact rfl); (case aB => exact (by repeat (first | (with_reducible first | exact HB.out | apply below_alloc | apply pw_below_drewN | apply below_drew1) | exact HB.out))); (case aF => exact (fun _ _ => trivial)); (case aO => exact (by (with_reducible repeat (first | apply Kd.R_alloc | apply Kd.R_drewN | apply Kd.R_drew)); exact HO_4.out)); (case aS => exact (below_size (by repeat (first | (with_reducible first | exact HB.out | apply below_alloc | apply pw_below_drewN | apply below_drew1) | exact HB.out)))); (case aL => have := LMc11.out; omega); intro v258 w15 ho hb hg hat; rw [← Ny257.out] at ho; have n0_ := Aside0.mk (Kd.R_over' (by (with_reducible repeat (first | apply Kd.R_alloc | apply Kd.R_drewN | apply Kd.R_drew)); exact HO_5.out) (Kd.R_typed (by (with_reducible repeat (first | apply Kd.R_alloc | apply Kd.R_drewN | apply Kd.R_drew)); exact HO_4.out)) (by decide) hg); have n1_ := Aside0.mk (hb); have n2_ := Aside0.mk (ho); clear HO_5; clear HB; clear HO_4; have HO_5 := n0_; have HB := n1_; have HO259 := n2_; clear n0_ n1_ n2_; clear ho hb hg hat; have p260 : 0 ≤ (x6_1 : Int) := of_decide_eq_true (by first | (with_reducible assumption) | assumption); have q260 : x6_1 < (l0.length : Int) := of_decide_eq_true (by first | (with_reducible assumption) | assumption); obtain ⟨ad260, e260, hx260_0⟩ := Kd.at_string HR0.out x6_1 p260 q260; obtain rfl : ad254 = ad260 := (by injection e260); replace hx260_0 := (HB.out.cell (World.block_lt_of_cell? w _ hx260_0)).trans hx260_0; replace p260 := eq_true p260; replace q260 := eq_true q260) | ((with_reducible refine gate_builtin (b := .append) (xs := #[.tmp 36, .tmp 43]) rfl ?_); at_builtin; refine Kd.R_append Kd.string (w0 := w) w.heap.size rfl (.tmp 36) (.tmp 43) 22 9 (.string ⟨#[]⟩) 16 rfl Try.underlying22 info9 rfl (by decide) (by omega) u5 x5_1 ((rdOf ByteArray.empty l0 x6_1).extract (t256 : Int).toNat (rdOf ByteArray.empty l0 x6_1).size) [.string ((rdOf ByteArray.empty l0 x6_1).extract (t256 : Int).toNat (rdOf ByteArray.empty l0 x6_1).size)] (fun _ => True) (fun _ => False) rfl rfl ?aP (fun _ hk => hk.elim) ?aF ?aO ?aB ?aS ?aL ?_; (case aP => exact rfl); (case aB => exact (by repeat (first | (with_reducible first | exact HB.out | apply below_alloc | apply pw_below_drewN | apply below_drew1) | exact HB.out))); (case aF => exact (fun _ _ => trivial)); (case aO => exact (by (with_reducible repeat (first | apply Kd.R_alloc | apply Kd.R_drewN | apply Kd.R_drew)); exact HO_5.out)); (case aS => exact (below_size (by repeat (first | (with_reducible first | exact HB.out | apply below_alloc | apply pw_below_drewN | apply below_drew1) | exact HB.out)))); (case aL => have := LMc14.out; omega); intro v262 w16 ho hb hg hat; rw [← Ny261.out] at ho; have n0_ := Aside0.mk (Kd.R_over' (by (with_reducible repeat (first | apply Kd.R_alloc | apply Kd.R_drewN | apply Kd.R_drew)); exact HO259.out) (Kd.R_typed (by (with_reducible repeat (first | apply Kd.R_alloc | apply Kd.R_drewN | apply Kd.R_drew)); exact HO_5.out)) (by decide) hg); have n1_ := Aside0.mk (hb); have n2_ := Aside0.mk (ho); clear HO259; clear HB; clear HO_5; have HO259 := n0_; have HB := n1_; have HO263 := n2_; clear n0_ n1_ n2_; clear ho hb hg hat))
             repeat (go_quiet (first | (go_at_call 25; (with_reducible refine (marquetryref14_Common.calls k1 (rdOf ByteArray.empty l0 (ji6)) (rdOf ByteArray.empty l0 x6_1) t256 _ A10.out).mono ?_); rintro e w' ⟨rfl, ⟨nd, rfl⟩⟩; (try first | exact ⟨rfl, _, World.drewN_drewN _ _ _⟩ | exact ⟨rfl, _, Eq.trans (World.drewN_drewN _ _ _) (congrArg (World.drewN _) (Nat.add_assoc _ _ _))⟩)) | ((with_reducible refine gate_builtin (b := .append) (xs := #[.tmp 32, .tmp 34]) rfl ?_); at_builtin; refine Kd.R_append (Kd.int .i64) (w0 := w) w.heap.size rfl (.tmp 32) (.tmp 34) 44 2 (.int .i64 0) 8 rfl Try.underlying44 info2 rfl (by decide) (by omega) u4 x4_1 t256 [.int .i64 t256] (fun _ => True) (fun _ => False) rfl rfl ?aP (fun _ hk => hk.elim) ?aF ?aO ?aB ?aS ?aL ?_; (case aP => exact rfl); (case aB => exact (by repeat (first | (with_reducible first | exact HB.out | apply below_alloc | apply pw_below_drewN | apply below_drew1) | exact HB.out))); (case aF => exact (fun _ _ => trivial)); (case aO => exact (by (with_reducible repeat (first | apply Kd.R_alloc | apply Kd.R_drewN | apply Kd.R_drew)); exact HO_4.out)); (case aS => exact (below_size (by repeat (first | (with_reducible first | exact HB.out | apply below_alloc | apply pw_below_drewN | apply below_drew1) | exact HB.out)))); (case aL => have := LMc11.out; omega); intro v258 w15 ho hb hg hat; rw [← Ny257.out] at ho; have n0_ := Aside0.mk (Kd.R_over' (by (with_reducible repeat (first | apply Kd.R_alloc | apply Kd.R_drewN | apply Kd.R_drew)); exact HO_5.out) (Kd.R_typed (by (with_reducible repeat (first | apply Kd.R_alloc | apply Kd.R_drewN | apply Kd.R_drew)); exact HO_4.out)) (by decide) hg); have n1_ := Aside0.mk (hb); have n2_ := Aside0.mk (ho); clear HO_5; clear HB; clear HO_4; have HO_5 := n0_; have HB := n1_; have HO259 := n2_; clear n0_ n1_ n2_; clear ho hb hg hat; have p260 : 0 ≤ (x6_1 : Int) := of_decide_eq_true (by first | (with_reducible assumption) | assumption); have q260 : x6_1 < (l0.length : Int) := of_decide_eq_true (by first | (with_reducible assumption) | assumption); obtain ⟨ad260, e260, hx260_0⟩ := Kd.at_string HR0.out x6_1 p260 q260; obtain rfl : ad254 = ad260 := (by injection e260); replace hx260_0 := (HB.out.cell (World.block_lt_of_cell? w _ hx260_0)).trans hx260_0; replace p260 := eq_true p260; replace q260 := eq_true q260) | ((with_reducible refine gate_builtin (b := .append) (xs := #[.tmp 36, .tmp 43]) rfl ?_); at_builtin; refine Kd.R_append Kd.string (w0 := w) w.heap.size rfl (.tmp 36) (.tmp 43) 22 9 (.string ⟨#[]⟩) 16 rfl Try.underlying22 info9 rfl (by decide) (by omega) u5 x5_1 ((rdOf ByteArray.empty l0 x6_1).extract (t256 : Int).toNat (rdOf ByteArray.empty l0 x6_1).size) [.string ((rdOf ByteArray.empty l0 x6_1).extract (t256 : Int).toNat (rdOf ByteArray.empty l0 x6_1).size)] (fun _ => True) (fun _ => False) rfl rfl ?aP (fun _ hk => hk.elim) ?aF ?aO ?aB ?aS ?aL ?_; (case aP => exact rfl); (case aB => exact (by repeat (first | (with_reducible first | exact HB.out | apply below_alloc | apply pw_below_drewN | apply below_drew1) | exact HB.out))); (case aF => exact (fun _ _ => trivial)); (case aO => exact (by (with_reducible repeat (first | apply Kd.R_alloc | apply Kd.R_drewN | apply Kd.R_drew)); exact HO_5.out)); (case aS => exact (below_size (by repeat (first | (with_reducible first | exact HB.out | apply below_alloc | apply pw_below_drewN | apply below_drew1) | exact HB.out)))); (case aL => have := LMc14.out; omega); intro v262 w16 ho hb hg hat; rw [← Ny261.out] at ho; have n0_ := Aside0.mk (Kd.R_over' (by (with_reducible repeat (first | apply Kd.R_alloc | apply Kd.R_drewN | apply Kd.R_drew)); exact HO259.out) (Kd.R_typed (by (with_reducible repeat (first | apply Kd.R_alloc | apply Kd.R_drewN | apply Kd.R_drew)); exact HO_5.out)) (by decide) hg); have n1_ := Aside0.mk (hb); have n2_ := Aside0.mk (ho); clear HO259; clear HB; clear HO_5; have HO259 := n0_; have HB := n1_; have HO263 := n2_; clear n0_ n1_ n2_; clear ho hb hg hat)); try go_wp2_with (first | (go_at_call 25; (with_reducible refine (marquetryref14_Common.calls k1 (rdOf ByteArray.empty l0 (ji6)) (rdOf ByteArray.empty l0 x6_1) t256 _ A10.out).mono ?_); rintro e w' ⟨rfl, ⟨nd, rfl⟩⟩; (try first | exact ⟨rfl, _, World.drewN_drewN _ _ _⟩ | exact ⟨rfl, _, Eq.trans (World.drewN_drewN _ _ _) (congrArg (World.drewN _) (Nat.add_assoc _ _ _))⟩)) | ((with_reducible refine gate_builtin (b := .append) (xs := #[.tmp 32, .tmp 34]) rfl ?_); at_builtin; refine Kd.R_append (Kd.int .i64) (w0 := w) w.heap.size rfl (.tmp 32) (.tmp 34) 44 2 (.int .i64 0) 8 rfl Try.underlying44 info2 rfl (by decide) (by omega) u4 x4_1 t256 [.int .i64 t256] (fun _ => True) (fun _ => False) rfl rfl ?aP (fun _ hk => hk.elim) ?aF ?aO ?aB ?aS ?aL ?_; (case aP => exact rfl); (case aB => exact (by repeat (first | (with_reducible first | exact HB.out | apply below_alloc | apply pw_below_drewN | apply below_drew1) | exact HB.out))); (case aF => exact (fun _ _ => trivial)); (case aO => exact (by (with_reducible repeat (first | apply Kd.R_alloc | apply Kd.R_drewN | apply Kd.R_drew)); exact HO_4.out)); (case aS => exact (below_size (by repeat (first | (with_reducible first | exact HB.out | apply below_alloc | apply pw_below_drewN | apply below_drew1) | exact HB.out)))); (case aL => have := LMc11.out; omega); intro v258 w15 ho hb hg hat; rw [← Ny257.out] at ho; have n0_ := Aside0.mk (Kd.R_over' (by (with_reducible repeat (first | apply Kd.R_alloc | apply Kd.R_drewN | apply Kd.R_drew)); exact HO_5.out) (Kd.R_typed (by (with_reducible repeat (first | apply Kd.R_alloc | apply Kd.R_drewN | apply Kd.R_drew)); exact HO_4.out)) (by decide) hg); have n1_ := Aside0.mk (hb); have n2_ := Aside0.mk (ho); clear HO_5; clear HB; clear HO_4; have HO_5 := n0_; have HB := n1_; have HO259 := n2_; clear n0_ n1_ n2_; clear ho hb hg hat; have p260 : 0 ≤ (x6_1 : Int) := of_decide_eq_true (by first | (with_reducible assumption) | assumption); have q260 : x6_1 < (l0.length : Int) := of_decide_eq_true (by first | (with_reducible assumption) | assumption); obtain ⟨ad260, e260, hx260_0⟩ := Kd.at_string HR0.out x6_1 p260 q260; obtain rfl : ad254 = ad260 := (by injection e260); replace hx260_0 := (HB.out.cell (World.block_lt_of_cell? w _ hx260_0)).trans hx260_0; replace p260 := eq_true p260; replace q260 := eq_true q260) | ((with_reducible refine gate_builtin (b := .append) (xs := #[.tmp 36, .tmp 43]) rfl ?_); at_builtin; refine Kd.R_append Kd.string (w0 := w) w.heap.size rfl (.tmp 36) (.tmp 43) 22 9 (.string ⟨#[]⟩) 16 rfl Try.underlying22 info9 rfl (by decide) (by omega) u5 x5_1 ((rdOf ByteArray.empty l0 x6_1).extract (t256 : Int).toNat (rdOf ByteArray.empty l0 x6_1).size) [.string ((rdOf ByteArray.empty l0 x6_1).extract (t256 : Int).toNat (rdOf ByteArray.empty l0 x6_1).size)] (fun _ => True) (fun _ => False) rfl rfl ?aP (fun _ hk => hk.elim) ?aF ?aO ?aB ?aS ?aL ?_; (case aP => exact rfl); (case aB => exact (by repeat (first | (with_reducible first | exact HB.out | apply below_alloc | apply pw_below_drewN | apply below_drew1) | exact HB.out))); (case aF => exact (fun _ _ => trivial)); (case aO => exact (by (with_reducible repeat (first | apply Kd.R_alloc | apply Kd.R_drewN | apply Kd.R_drew)); exact HO_5.out)); (case aS => exact (below_size (by repeat (first | (with_reducible first | exact HB.out | apply below_alloc | apply pw_below_drewN | apply below_drew1) | exact HB.out)))); (case aL => have := LMc14.out; omega); intro v262 w16 ho hb hg hat; rw [← Ny261.out] at ho; have n0_ := Aside0.mk (Kd.R_over' (by (with_reducible repeat (first | apply Kd.R_alloc | apply Kd.R_drewN | apply Kd.R_drew)); exact HO259.out) (Kd.R_typed (by (with_reducible repeat (first | apply Kd.R_alloc | apply Kd.R_drewN | apply Kd.R_drew)); exact HO_5.out)) (by decide) hg); have n1_ := Aside0.mk (hb); have n2_ := Aside0.mk (ho); clear HO259; clear HB; clear HO_5; have HO259 := n0_; have HB := n1_; have HO263 := n2_; clear n0_ n1_ n2_; clear ho hb hg hat)))
             go_roundg k1
             case measure => have := HK1.out; omega
             case rel => exact ⟨(y257), (y261), (wrap64 (x6_1 + 1)), (by first | rfl | (simp; done) | (simp [*]; done)), H', ⟨by have := HK1.out; omega⟩, ⟨by (with_reducible repeat (first | apply Kd.R_alloc | apply Kd.R_drewN | apply Kd.R_drew)); exact HO259.out⟩, ⟨by (with_reducible repeat (first | apply Kd.R_alloc | apply Kd.R_drewN | apply Kd.R_drew)); exact HO263.out⟩, ⟨by repeat (first | (with_reducible first | exact HB.out | apply below_alloc | apply pw_below_drewN | apply below_drew1) | exact HB.out)⟩⟩
            ·rw [if_neg c14] at H
             exact absurd H (by simp)
           ·rw [if_neg c13] at H
            exact absurd H (by simp)
          ·rw [if_neg c12] at H
           exact absurd H (by simp)
         ·rw [if_neg c11] at H
          exact absurd H (by simp)
        ·rw [if_neg c9] at H
         exact absurd H (by simp)
       ·rw [if_neg c8] at H
        exact absurd H (by simp)
      ·rw [if_neg c7] at H
       exact absurd H (by simp)
     ·rw [if_neg c5] at H
      have c5b0 : decide (0 < x6_1) = false := decide_eq_false c5
      clear c5
      by_cases c17 : x4_1.length < 17592186044416
      ·rw [if_pos c17] at H
       have LMc17 := Aside0.mk c17
       clear c17
       obtain ⟨y264, hy264⟩ : ∃ y_ : List Int, y_ = (x4_1 ++ [0]) := ⟨_, rfl⟩
       replace H : (if 0 ≤ x6_1 then (if 0 ≤ ((rdOf ByteArray.empty l0 x6_1).size : Int) then (if x5_1.length < 8796093022208 then (marquetryref14_Prefixes.l0 k1 l0 y264 (x5_1 ++ [(rdOf ByteArray.empty l0 x6_1).extract 0 (rdOf ByteArray.empty l0 x6_1).size]) (wrap64 (x6_1 + 1))) else (none)) else (none)) else (none)) = some (r1, r2) := by first | (rw [hy264]; with_reducible exact H) | (have H2_ := (Option.bind_some _ _).symm.trans H; rw [hy264]; with_reducible exact H2_) | (have H2_ := (Option.bind_some _ _).symm.trans H; with_reducible exact H2_) | with_reducible exact H | (rw [hy264]; exact H) | exact H
       have Ny264 := Aside0.mk hy264
       clear hy264
       by_cases c18 : 0 ≤ x6_1
       ·rw [if_pos c18] at H
        have c18b0 : decide (0 ≤ x6_1) = true := decide_eq_true c18
        clear c18
        by_cases c19 : 0 ≤ ((rdOf ByteArray.empty l0 x6_1).size : Int)
        ·rw [if_pos c19] at H
         have c19b0 := eq_true c19
         have c19b1 : decide (0 ≤ ((rdOf ByteArray.empty l0 x6_1).size : Int)) = true := decide_eq_true c19
         clear c19
         by_cases c20 : x5_1.length < 8796093022208
         ·rw [if_pos c20] at H
          have LMc20 := Aside0.mk c20
          clear c20
          obtain ⟨y268, hy268⟩ : ∃ y_ : List ByteArray, y_ = (x5_1 ++ [(rdOf ByteArray.empty l0 x6_1).extract 0 (rdOf ByteArray.empty l0 x6_1).size]) := ⟨_, rfl⟩
          replace H : (marquetryref14_Prefixes.l0 k1 l0 y264 y268 (wrap64 (x6_1 + 1))) = some (r1, r2) := by first | (rw [hy268]; with_reducible exact H) | (have H2_ := (Option.bind_some _ _).symm.trans H; rw [hy268]; with_reducible exact H2_) | (have H2_ := (Option.bind_some _ _).symm.trans H; with_reducible exact H2_) | with_reducible exact H | (rw [hy268]; exact H) | exact H
          have Ny268 := Aside0.mk hy268
          clear hy268
          have H' := Aside0.mk H
          clear H
          go_wp2_with (first | ((with_reducible refine gate_builtin (b := .append) (xs := #[.tmp 32, .tmp 34]) rfl ?_); at_builtin; refine Kd.R_append (Kd.int .i64) (w0 := w) w.heap.size rfl (.tmp 32) (.tmp 34) 44 2 (.int .i64 0) 8 rfl Try.underlying44 info2 rfl (by decide) (by omega) u4 x4_1 0 [.int .i64 0] (fun _ => True) (fun _ => False) rfl rfl ?aP (fun _ hk => hk.elim) ?aF ?aO ?aB ?aS ?aL ?_; (case aP => exact rfl); (case aB => exact (by repeat (first | (with_reducible first | exact HB.out | apply below_alloc | apply pw_below_drewN | apply below_drew1) | exact HB.out))); (case aF => exact (fun _ _ => trivial)); (case aO => exact (by (with_reducible repeat (first | apply Kd.R_alloc | apply Kd.R_drewN | apply Kd.R_drew)); exact HO_4.out)); (case aS => exact (below_size (by repeat (first | (with_reducible first | exact HB.out | apply below_alloc | apply pw_below_drewN | apply below_drew1) | exact HB.out)))); (case aL => have := LMc17.out; omega); intro v265 w21 ho hb hg hat; rw [← Ny264.out] at ho; have n0_ := Aside0.mk (Kd.R_over' (by (with_reducible repeat (first | apply Kd.R_alloc | apply Kd.R_drewN | apply Kd.R_drew)); exact HO_5.out) (Kd.R_typed (by (with_reducible repeat (first | apply Kd.R_alloc | apply Kd.R_drewN | apply Kd.R_drew)); exact HO_4.out)) (by decide) hg); have n1_ := Aside0.mk (hb); have n2_ := Aside0.mk (ho); clear HO_5; clear HB; clear HO_4; have HO_5 := n0_; have HB := n1_; have HO266 := n2_; clear n0_ n1_ n2_; clear ho hb hg hat; have p267 : 0 ≤ (x6_1 : Int) := of_decide_eq_true (by first | (with_reducible assumption) | assumption); have q267 : x6_1 < (l0.length : Int) := of_decide_eq_true (by first | (with_reducible assumption) | assumption); obtain ⟨ad267, e267, hx267_0⟩ := Kd.at_string HR0.out x6_1 p267 q267; cases e267; replace hx267_0 := (HB.out.cell (World.block_lt_of_cell? w _ hx267_0)).trans hx267_0; replace p267 := eq_true p267; replace q267 := eq_true q267) | ((with_reducible refine gate_builtin (b := .append) (xs := #[.tmp 36, .tmp 43]) rfl ?_); at_builtin; refine Kd.R_append Kd.string (w0 := w) w.heap.size rfl (.tmp 36) (.tmp 43) 22 9 (.string ⟨#[]⟩) 16 rfl Try.underlying22 info9 rfl (by decide) (by omega) u5 x5_1 ((rdOf ByteArray.empty l0 x6_1).extract 0 (rdOf ByteArray.empty l0 x6_1).size) [.string ((rdOf ByteArray.empty l0 x6_1).extract 0 (rdOf ByteArray.empty l0 x6_1).size)] (fun _ => True) (fun _ => False) rfl rfl ?aP (fun _ hk => hk.elim) ?aF ?aO ?aB ?aS ?aL ?_; (case aP => exact rfl); (case aB => exact (by repeat (first | (with_reducible first | exact HB.out | apply below_alloc | apply pw_below_drewN | apply below_drew1) | exact HB.out))); (case aF => exact (fun _ _ => trivial)); (case aO => exact (by (with_reducible repeat (first | apply Kd.R_alloc | apply Kd.R_drewN | apply Kd.R_drew)); exact HO_5.out)); (case aS => exact (below_size (by repeat (first | (with_reducible first | exact HB.out | apply below_alloc | apply pw_below_drewN | apply below_drew1) | exact HB.out)))); (case aL => have := LMc20.out; omega); intro v269 w22 ho hb hg hat; rw [← Ny268.out] at ho; have n0_ := Aside0.mk (Kd.R_over' (by (with_reducible repeat (first | apply Kd.R_alloc | apply Kd.R_drewN | apply Kd.R_drew)); exact HO266.out) (Kd.R_typed (by (with_reducible repeat (first | apply Kd.R_alloc | apply Kd.R_drewN | apply Kd.R_drew)); exact HO_5.out)) (by decide) hg); have n1_ := Aside0.mk (hb); have n2_ := Aside0.mk (ho); clear HO266; clear HB; clear HO_5; have HO266 := n0_; have HB := n1_; have HO270 := n2_; clear n0_ n1_ n2_; clear ho hb hg hat))
          repeat (go_quiet (first | ((with_reducible refine gate_builtin (b := .append) (xs := #[.tmp 32, .tmp 34]) rfl ?_); at_builtin; refine Kd.R_append (Kd.int .i64) (w0 := w) w.heap.size rfl (.tmp 32) (.tmp 34) 44 2 (.int .i64 0) 8 rfl Try.underlying44 info2 rfl (by decide) (by omega) u4 x4_1 0 [.int .i64 0] (fun _ => True) (fun _ => False) rfl rfl ?aP (fun _ hk => hk.elim) ?aF ?aO ?aB ?aS ?aL ?_; (case aP => exact rfl); (case aB => exact (by repeat (first | (with_reducible first | exact HB.out | apply below_alloc | apply pw_below_drewN | apply below_drew1) | exact HB.out))); (case aF => exact (fun _ _ => trivial)); (case aO => exact (by (with_reducible repeat (first | apply Kd.R_alloc | apply Kd.R_drewN | apply Kd.R_drew)); exact HO_4.out)); (case aS => exact (below_size (by repeat (first | (with_reducible first | exact HB.out | apply below_alloc | apply pw_below_drewN | apply below_drew1) | exact HB.out)))); (case aL => have := LMc17.out; omega); intro v265 w21 ho hb hg hat; rw [← Ny264.out] at ho; have n0_ := Aside0.mk (Kd.R_over' (by (with_reducible repeat (first | apply Kd.R_alloc | apply Kd.R_drewN | apply Kd.R_drew)); exact HO_5.out) (Kd.R_typed (by (with_reducible repeat (first | apply Kd.R_alloc | apply Kd.R_drewN | apply Kd.R_drew)); exact HO_4.out)) (by decide) hg); have n1_ := Aside0.mk (hb); have n2_ := Aside0.mk (ho); clear HO_5; clear HB; clear HO_4; have HO_5 := n0_; have HB := n1_; have HO266 := n2_; clear n0_ n1_ n2_; clear ho hb hg hat; have p267 : 0 ≤ (x6_1 : Int) := of_decide_eq_true (by first | (with_reducible assumption) | assumption); have q267 : x6_1 < (l0.length : Int) := of_decide_eq_true (by first | (with_reducible assumption) | assumption); obtain ⟨ad267, e267, hx267_0⟩ := Kd.at_string HR0.out x6_1 p267 q267; cases e267; replace hx267_0 := (HB.out.cell (World.block_lt_of_cell? w _ hx267_0)).trans hx267_0; replace p267 := eq_true p267; replace q267 := eq_true q267) | ((with_reducible refine gate_builtin (b := .append) (xs := #[.tmp 36, .tmp 43]) rfl ?_); at_builtin; refine Kd.R_append Kd.string (w0 := w) w.heap.size rfl (.tmp 36) (.tmp 43) 22 9 (.string ⟨#[]⟩) 16 rfl Try.underlying22 info9 rfl (by decide) (by omega) u5 x5_1 ((rdOf ByteArray.empty l0 x6_1).extract 0 (rdOf ByteArray.empty l0 x6_1).size) [.string ((rdOf ByteArray.empty l0 x6_1).extract 0 (rdOf ByteArray.empty l0 x6_1).size)] (fun _ => True) (fun _ => False) rfl rfl ?aP (fun _ hk => hk.elim) ?aF ?aO ?aB ?aS ?aL ?_; (case aP => exact rfl); (case aB => exact (by repeat (first | (with_reducible first | exact HB.out | apply below_alloc | apply pw_below_drewN | apply below_drew1) | exact HB.out))); (case aF => exact (fun _ _ => trivial)); (case aO => exact (by (with_reducible repeat (first | apply Kd.R_alloc | apply Kd.R_drewN | apply Kd.R_drew)); exact HO_5.out)); (case aS => exact (below_size (by repeat (first | (with_reducible first | exact HB.out | apply below_alloc | apply pw_below_drewN | apply below_drew1) | exact HB.out)))); (case aL => have := LMc20.out; omega); intro v269 w22 ho hb hg hat; rw [← Ny268.out] at ho; have n0_ := Aside0.mk (Kd.R_over' (by (with_reducible repeat (first | apply Kd.R_alloc | apply Kd.R_drewN | apply Kd.R_drew)); exact HO266.out) (Kd.R_typed (by (with_reducible repeat (first | apply Kd.R_alloc | apply Kd.R_drewN | apply Kd.R_drew)); exact HO_5.out)) (by decide) hg); have n1_ := Aside0.mk (hb); have n2_ := Aside0.mk (ho); clear HO266; clear HB; clear HO_5; have HO266 := n0_; have HB := n1_; have HO270 := n2_; clear n0_ n1_ n2_; clear ho hb hg hat)); try go_wp2_with (first | ((with_reducible refine gate_builtin (b := .append) (xs := #[.tmp 32, .tmp 34]) rfl ?_); at_builtin; refine Kd.R_append (Kd.int .i64) (w0 := w) w.heap.size rfl (.tmp 32) (.tmp 34) 44 2 (.int .i64 0) 8 rfl Try.underlying44 info2 rfl (by decide) (by omega) u4 x4_1 0 [.int .i64 0] (fun _ => True) (fun _ => False) rfl rfl ?aP (fun _ hk => hk.elim) ?aF ?aO ?aB ?aS ?aL ?_; (case aP => exact rfl); (case aB => exact (by repeat (first | (with_reducible first | exact HB.out | apply below_alloc | apply pw_below_drewN | apply below_drew1) | exact HB.out))); (case aF => exact (fun _ _ => trivial)); (case aO => exact (by (with_reducible repeat (first | apply Kd.R_alloc | apply Kd.R_drewN | apply Kd.R_drew)); exact HO_4.out)); (case aS => exact (below_size (by repeat (first | (with_reducible first | exact HB.out | apply below_alloc | apply pw_below_drewN | apply below_drew1) | exact HB.out)))); (case aL => have := LMc17.out; omega); intro v265 w21 ho hb hg hat; rw [← Ny264.out] at ho; have n0_ := Aside0.mk (Kd.R_over' (by (with_reducible repeat (first | apply Kd.R_alloc | apply Kd.R_drewN | apply Kd.R_drew)); exact HO_5.out) (Kd.R_typed (by (with_reducible repeat (first | apply Kd.R_alloc | apply Kd.R_drewN | apply Kd.R_drew)); exact HO_4.out)) (by decide) hg); have n1_ := Aside0.mk (hb); have n2_ := Aside0.mk (ho); clear HO_5; clear HB; clear HO_4; have HO_5 := n0_; have HB := n1_; have HO266 := n2_; clear n0_ n1_ n2_; clear ho hb hg hat; have p267 : 0 ≤ (x6_1 : Int) := of_decide_eq_true (by first | (with_reducible assumption) | assumption); have q267 : x6_1 < (l0.length : Int) := of_decide_eq_true (by first | (with_reducible assumption) | assumption); obtain ⟨ad267, e267, hx267_0⟩ := Kd.at_string HR0.out x6_1 p267 q267; cases e267; replace hx267_0 := (HB.out.cell (World.block_lt_of_cell? w _ hx267_0)).trans hx267_0; replace p267 := eq_true p267; replace q267 := eq_true q267) | ((with_reducible refine gate_builtin (b := .append) (xs := #[.tmp 36, .tmp 43]) rfl ?_); at_builtin; refine Kd.R_append Kd.string (w0 := w) w.heap.size rfl (.tmp 36) (.tmp 43) 22 9 (.string ⟨#[]⟩) 16 rfl Try.underlying22 info9 rfl (by decide) (by omega) u5 x5_1 ((rdOf ByteArray.empty l0 x6_1).extract 0 (rdOf ByteArray.empty l0 x6_1).size) [.string ((rdOf ByteArray.empty l0 x6_1).extract 0 (rdOf ByteArray.empty l0 x6_1).size)] (fun _ => True) (fun _ => False) rfl rfl ?aP (fun _ hk => hk.elim) ?aF ?aO ?aB ?aS ?aL ?_; (case aP => exact rfl); (case aB => exact (by repeat (first | (with_reducible first | exact HB.out | apply below_alloc | apply pw_below_drewN | apply below_drew1) | exact HB.out))); (case aF => exact (fun _ _ => trivial)); (case aO => exact (by (with_reducible repeat (first | apply Kd.R_alloc | apply Kd.R_drewN | apply Kd.R_drew)); exact HO_5.out)); (case aS => exact (below_size (by repeat (first | (with_reducible first | exact HB.out | apply below_alloc | apply pw_below_drewN | apply below_drew1) | exact HB.out)))); (case aL => have := LMc20.out; omega); intro v269 w22 ho hb hg hat; rw [← Ny268.out] at ho; have n0_ := Aside0.mk (Kd.R_over' (by (with_reducible repeat (first | apply Kd.R_alloc | apply Kd.R_drewN | apply Kd.R_drew)); exact HO266.out) (Kd.R_typed (by (with_reducible repeat (first | apply Kd.R_alloc | apply Kd.R_drewN | apply Kd.R_drew)); exact HO_5.out)) (by decide) hg); have n1_ := Aside0.mk (hb); have n2_ := Aside0.mk (ho); clear HO266; clear HB; clear HO_5; have HO266 := n0_; have HB := n1_; have HO270 := n2_; clear n0_ n1_ n2_; clear ho hb hg hat)))
          go_roundg k1
          case measure => have := HK1.out; omega
          case rel => exact ⟨(y264), (y268), (wrap64 (x6_1 + 1)), (by first | rfl | (simp; done) | (simp [*]; done)), H', ⟨by have := HK1.out; omega⟩, ⟨by (with_reducible repeat (first | apply Kd.R_alloc | apply Kd.R_drewN | apply Kd.R_drew)); exact HO266.out⟩, ⟨by (with_reducible repeat (first | apply Kd.R_alloc | apply Kd.R_drewN | apply Kd.R_drew)); exact HO270.out⟩, ⟨by repeat (first | (with_reducible first | exact HB.out | apply below_alloc | apply pw_below_drewN | apply below_drew1) | exact HB.out)⟩⟩
         ·rw [if_neg c20] at H
          exact absurd H (by simp)
        ·rw [if_neg c19] at H
         exact absurd H (by simp)
       ·rw [if_neg c18] at H
        exact absurd H (by simp)
      ·rw [if_neg c17] at H
       exact absurd H (by simp)
    ·rw [if_neg c4] at H
     have c4b0 : decide (x6_1 < (l0.length : Int)) = false := decide_eq_false c4
     clear c4
     replace H := Option.bind_eq_some_iff.mp H
     obtain ⟨⟨t271, t272⟩, A230, H⟩ := H
     replace H : ((marquetryref14_Lengths.f x5_1).bind fun bt275 => (if t271.length + bt275.1.length < 140737488355328 then (some ((t271 ++ bt275.1), 0)) else (none))) = some (r1, r2) := H
     have A23 := Aside0.mk A230
     clear A230
     replace H := Option.bind_eq_some_iff.mp H
     obtain ⟨⟨t275, t276⟩, A240, H⟩ := H
     replace H : (if t271.length + t275.length < 140737488355328 then (some ((t271 ++ t275), 0)) else (none)) = some (r1, r2) := H
     have A24 := Aside0.mk A240
     clear A240
     by_cases c25 : t271.length + t275.length < 140737488355328
     ·rw [if_pos c25] at H
      have LMc25 := Aside0.mk c25
      clear c25
      obtain ⟨y279, hy279⟩ : ∃ y_ : List Int, y_ = (t271 ++ t275) := ⟨_, rfl⟩
      replace H : (some (y279, 0)) = some (r1, r2) := by first | (rw [hy279]; with_reducible exact H) | (have H2_ := (Option.bind_some _ _).symm.trans H; rw [hy279]; with_reducible exact H2_) | (have H2_ := (Option.bind_some _ _).symm.trans H; with_reducible exact H2_) | with_reducible exact H | (rw [hy279]; exact H) | exact H
      have Ny279 := Aside0.mk hy279
      clear hy279
      simp only [Option.some.injEq, Prod.mk.injEq] at H
      obtain ⟨rfl, rfl⟩ := H
      obtain ⟨Ao26, co26, eo26⟩ := Kd.R_slice HO_4.out
      subst eo26
      go_wp2_with (first | (go_at_call 34; (with_reducible refine (marquetryref13_Write.calls k1 _ _ x4_1 t271 t272 _ ?side1 ?side2 A23.out).mono ?_); (case side1 => repeat (first | exact (Kd.R_reads' HO_4.out).2.2 | (with_reducible refine Kd.C_alloc ?_ _) | (with_reducible refine Kd.C_drewN ?_ _) | (with_reducible refine Kd.C_drew ?_))); (case side2 => exact (Kd.R_reads' HO_4.out).2.1); rintro e w27 ⟨v273, rfl, ho0, hb⟩; have n0_ := Aside0.mk (Kd.R_below (by (with_reducible repeat (first | apply Kd.R_alloc | apply Kd.R_drewN | apply Kd.R_drew)); exact HO_4.out) hb); have n1_ := Aside0.mk (Kd.R_below (by (with_reducible repeat (first | apply Kd.R_alloc | apply Kd.R_drewN | apply Kd.R_drew)); exact HO_5.out) hb); have n2_ := Aside0.mk (Kd.R_lower ho0 (below_size (by repeat (first | (with_reducible first | exact HB.out | apply below_alloc | apply pw_below_drewN | apply below_drew1) | exact HB.out)))); have n3_ := Aside0.mk (below_step (by repeat (first | (with_reducible first | exact HB.out | apply below_alloc | apply pw_below_drewN | apply below_drew1) | exact HB.out)) hb); clear HO_4; clear HO_5; clear HB; have HO_4 := n0_; have HO_5 := n1_; have HO274 := n2_; have HB := n3_; clear n0_ n1_ n2_ n3_; (try clear hb); (try clear hb2); (try clear hk); (try clear hi); (try clear ho0); obtain ⟨Ao28, co28, eo28⟩ := Kd.R_slice HO_5.out; subst eo28) | (go_at_call 14; (with_reducible refine (marquetryref14_Lengths.calls _ _ x5_1 t275 t276 _ ?side1 ?side2 A24.out).mono ?_); (case side1 => repeat (first | exact (Kd.R_reads' HO_5.out).2.2 | (with_reducible refine Kd.C_alloc ?_ _) | (with_reducible refine Kd.C_drewN ?_ _) | (with_reducible refine Kd.C_drew ?_))); (case side2 => exact (Kd.R_reads' HO_5.out).2.1); rintro e w29 ⟨v277, rfl, ho0, hb⟩; have n0_ := Aside0.mk (Kd.R_below (by (with_reducible repeat (first | apply Kd.R_alloc | apply Kd.R_drewN | apply Kd.R_drew)); exact HO_4.out) hb); have n1_ := Aside0.mk (Kd.R_below (by (with_reducible repeat (first | apply Kd.R_alloc | apply Kd.R_drewN | apply Kd.R_drew)); exact HO_5.out) hb); have n2_ := Aside0.mk (Kd.R_elder' (by (with_reducible repeat (first | apply Kd.R_alloc | apply Kd.R_drewN | apply Kd.R_drew)); exact HO274.out) (Kd.R_base ho0) hb); have n3_ := Aside0.mk (Kd.R_lower (Kd.R_new' ho0 (Kd.R_lt (by (with_reducible repeat (first | apply Kd.R_alloc | apply Kd.R_drewN | apply Kd.R_drew)); exact HO274.out))) (below_size (by repeat (first | (with_reducible first | exact HB.out | apply below_alloc | apply pw_below_drewN | apply below_drew1) | exact HB.out)))); have n4_ := Aside0.mk (below_step (by repeat (first | (with_reducible first | exact HB.out | apply below_alloc | apply pw_below_drewN | apply below_drew1) | exact HB.out)) hb); clear HO_4; clear HO_5; clear HO274; clear HB; have HO_4 := n0_; have HO_5 := n1_; have HO274 := n2_; have HO278 := n3_; have HB := n4_; clear n0_ n1_ n2_ n3_ n4_; (try clear hb); (try clear hb2); (try clear hk); (try clear hi); (try clear ho0); obtain ⟨Ao31, co31, eo31⟩ := Kd.R_slice HO278.out; subst eo31) | ((with_reducible refine gate_builtin (b := .append) (xs := #[.tmp 55, .tmp 56]) rfl ?_); at_builtin; refine Kd.R_append_rows (Kd.int .u8) (w0 := w) w.heap.size rfl (.tmp 55) (.tmp 56) 25 5 (.int .u8 0) 1 rfl Try.underlying25 info5 rfl (by decide) (by omega) v273 t271 t275 _ _ _ (fun k_ => some k_ ≠ (.slice Ao31 t275.length co31 : Value).ownBlock) (fun _ => False) rfl rfl ?aO ?aR (fun _ _ h => h) (fun _ h => h.elim) ?aF ?aB ?aS ?aL ?_; (case aR => repeat (first | exact (Kd.R_reads' HO278.out).2.2 | (with_reducible refine Kd.C_alloc ?_ _) | (with_reducible refine Kd.C_drewN ?_ _) | (with_reducible refine Kd.C_drew ?_))); (case aB => exact (by repeat (first | (with_reducible first | exact HB.out | apply below_alloc | apply pw_below_drewN | apply below_drew1) | exact HB.out))); (case aF => exact (fun k_ hk => Kd.fresh' (Kd.R_lt (by (with_reducible repeat (first | apply Kd.R_alloc | apply Kd.R_drewN | apply Kd.R_drew)); exact HO278.out)) k_ hk)); (case aO => exact (by (with_reducible repeat (first | apply Kd.R_alloc | apply Kd.R_drewN | apply Kd.R_drew)); exact Kd.R_mono HO274.out (fun _ hk => hk.2))); (case aS => exact (below_size (by repeat (first | (with_reducible first | exact HB.out | apply below_alloc | apply pw_below_drewN | apply below_drew1) | exact HB.out)))); (case aL => have := LMc25.out; omega); intro v280 w30 ho hb hg hat; rw [← Ny279.out] at ho; have n0_ := Aside0.mk (Kd.R_over' (by (with_reducible repeat (first | apply Kd.R_alloc | apply Kd.R_drewN | apply Kd.R_drew)); exact HO_4.out) (Kd.R_typed (by (with_reducible repeat (first | apply Kd.R_alloc | apply Kd.R_drewN | apply Kd.R_drew)); exact HO274.out)) (by decide) hg); have n1_ := Aside0.mk (Kd.R_over' (by (with_reducible repeat (first | apply Kd.R_alloc | apply Kd.R_drewN | apply Kd.R_drew)); exact HO_5.out) (Kd.R_typed (by (with_reducible repeat (first | apply Kd.R_alloc | apply Kd.R_drewN | apply Kd.R_drew)); exact HO274.out)) (by decide) hg); have n2_ := Aside0.mk (Kd.R_after (ok := (fun _ => True)) (by (with_reducible repeat (first | apply Kd.R_alloc | apply Kd.R_drewN | apply Kd.R_drew)); exact HO278.out) hg hat); have n3_ := Aside0.mk (hb); have n4_ := Aside0.mk (ho); clear HO_4; clear HO_5; clear HO278; clear HB; clear HO274; have HO_4 := n0_; have HO_5 := n1_; have HO278 := n2_; have HB := n3_; have HO281 := n4_; clear n0_ n1_ n2_ n3_ n4_; clear ho hb hg hat))
      repeat (go_quiet (first | (go_at_call 34; (with_reducible refine (marquetryref13_Write.calls k1 _ _ x4_1 t271 t272 _ ?side1 ?side2 A23.out).mono ?_); (case side1 => repeat (first | exact (Kd.R_reads' HO_4.out).2.2 | (with_reducible refine Kd.C_alloc ?_ _) | (with_reducible refine Kd.C_drewN ?_ _) | (with_reducible refine Kd.C_drew ?_))); (case side2 => exact (Kd.R_reads' HO_4.out).2.1); rintro e w27 ⟨v273, rfl, ho0, hb⟩; have n0_ := Aside0.mk (Kd.R_below (by (with_reducible repeat (first | apply Kd.R_alloc | apply Kd.R_drewN | apply Kd.R_drew)); exact HO_4.out) hb); have n1_ := Aside0.mk (Kd.R_below (by (with_reducible repeat (first | apply Kd.R_alloc | apply Kd.R_drewN | apply Kd.R_drew)); exact HO_5.out) hb); have n2_ := Aside0.mk (Kd.R_lower ho0 (below_size (by repeat (first | (with_reducible first | exact HB.out | apply below_alloc | apply pw_below_drewN | apply below_drew1) | exact HB.out)))); have n3_ := Aside0.mk (below_step (by repeat (first | (with_reducible first | exact HB.out | apply below_alloc | apply pw_below_drewN | apply below_drew1) | exact HB.out)) hb); clear HO_4; clear HO_5; clear HB; have HO_4 := n0_; have HO_5 := n1_; have HO274 := n2_; have HB := n3_; clear n0_ n1_ n2_ n3_; (try clear hb); (try clear hb2); (try clear hk); (try clear hi); (try clear ho0); obtain ⟨Ao28, co28, eo28⟩ := Kd.R_slice HO_5.out; subst eo28) | (go_at_call 14; (with_reducible refine (marquetryref14_Lengths.calls _ _ x5_1 t275 t276 _ ?side1 ?side2 A24.out).mono ?_); (case side1 => repeat (first | exact (Kd.R_reads' HO_5.out).2.2 | (with_reducible refine Kd.C_alloc ?_ _) | (with_reducible refine Kd.C_drewN ?_ _) | (with_reducible refine Kd.C_drew ?_))); (case side2 => exact (Kd.R_reads' HO_5.out).2.1); rintro e w29 ⟨v277, rfl, ho0, hb⟩; have n0_ := Aside0.mk (Kd.R_below (by (with_reducible repeat (first | apply Kd.R_alloc | apply Kd.R_drewN | apply Kd.R_drew)); exact HO_4.out) hb); have n1_ := Aside0.mk (Kd.R_below (by (with_reducible repeat (first | apply Kd.R_alloc | apply Kd.R_drewN | apply Kd.R_drew)); exact HO_5.out) hb); have n2_ := Aside0.mk (Kd.R_elder' (by (with_reducible repeat (first | apply Kd.R_alloc | apply Kd.R_drewN | apply Kd.R_drew)); exact HO274.out) (Kd.R_base ho0) hb); have n3_ := Aside0.mk (Kd.R_lower (Kd.R_new' ho0 (Kd.R_lt (by (with_reducible repeat (first | apply Kd.R_alloc | apply Kd.R_drewN | apply Kd.R_drew)); exact HO274.out))) (below_size (by repeat (first | (with_reducible first | exact HB.out | apply below_alloc | apply pw_below_drewN | apply below_drew1) | exact HB.out)))); have n4_ := Aside0.mk (below_step (by repeat (first | (with_reducible first | exact HB.out | apply below_alloc | apply pw_below_drewN | apply below_drew1) | exact HB.out)) hb); clear HO_4; clear HO_5; clear HO274; clear HB; have HO_4 := n0_; have HO_5 := n1_; have HO274 := n2_; have HO278 := n3_; have HB := n4_; clear n0_ n1_ n2_ n3_ n4_; (try clear hb); (try clear hb2); (try clear hk); (try clear hi); (try clear ho0); obtain ⟨Ao31, co31, eo31⟩ := Kd.R_slice HO278.out; subst eo31) | ((with_reducible refine gate_builtin (b := .append) (xs := #[.tmp 55, .tmp 56]) rfl ?_); at_builtin; refine Kd.R_append_rows (Kd.int .u8) (w0 := w) w.heap.size rfl (.tmp 55) (.tmp 56) 25 5 (.int .u8 0) 1 rfl Try.underlying25 info5 rfl (by decide) (by omega) v273 t271 t275 _ _ _ (fun k_ => some k_ ≠ (.slice Ao31 t275.length co31 : Value).ownBlock) (fun _ => False) rfl rfl ?aO ?aR (fun _ _ h => h) (fun _ h => h.elim) ?aF ?aB ?aS ?aL ?_; (case aR => repeat (first | exact (Kd.R_reads' HO278.out).2.2 | (with_reducible refine Kd.C_alloc ?_ _) | (with_reducible refine Kd.C_drewN ?_ _) | (with_reducible refine Kd.C_drew ?_))); (case aB => exact (by repeat (first | (with_reducible first | exact HB.out | apply below_alloc | apply pw_below_drewN | apply below_drew1) | exact HB.out))); (case aF => exact (fun k_ hk => Kd.fresh' (Kd.R_lt (by (with_reducible repeat (first | apply Kd.R_alloc | apply Kd.R_drewN | apply Kd.R_drew)); exact HO278.out)) k_ hk)); (case aO => exact (by (with_reducible repeat (first | apply Kd.R_alloc | apply Kd.R_drewN | apply Kd.R_drew)); exact Kd.R_mono HO274.out (fun _ hk => hk.2))); (case aS => exact (below_size (by repeat (first | (with_reducible first | exact HB.out | apply below_alloc | apply pw_below_drewN | apply below_drew1) | exact HB.out)))); (case aL => have := LMc25.out; omega); intro v280 w30 ho hb hg hat; rw [← Ny279.out] at ho; have n0_ := Aside0.mk (Kd.R_over' (by (with_reducible repeat (first | apply Kd.R_alloc | apply Kd.R_drewN | apply Kd.R_drew)); exact HO_4.out) (Kd.R_typed (by (with_reducible repeat (first | apply Kd.R_alloc | apply Kd.R_drewN | apply Kd.R_drew)); exact HO274.out)) (by decide) hg); have n1_ := Aside0.mk (Kd.R_over' (by (with_reducible repeat (first | apply Kd.R_alloc | apply Kd.R_drewN | apply Kd.R_drew)); exact HO_5.out) (Kd.R_typed (by (with_reducible repeat (first | apply Kd.R_alloc | apply Kd.R_drewN | apply Kd.R_drew)); exact HO274.out)) (by decide) hg); have n2_ := Aside0.mk (Kd.R_after (ok := (fun _ => True)) (by (with_reducible repeat (first | apply Kd.R_alloc | apply Kd.R_drewN | apply Kd.R_drew)); exact HO278.out) hg hat); have n3_ := Aside0.mk (hb); have n4_ := Aside0.mk (ho); clear HO_4; clear HO_5; clear HO278; clear HB; clear HO274; have HO_4 := n0_; have HO_5 := n1_; have HO278 := n2_; have HB := n3_; have HO281 := n4_; clear n0_ n1_ n2_ n3_ n4_; clear ho hb hg hat)); try go_wp2_with (first | (go_at_call 34; (with_reducible refine (marquetryref13_Write.calls k1 _ _ x4_1 t271 t272 _ ?side1 ?side2 A23.out).mono ?_); (case side1 => repeat (first | exact (Kd.R_reads' HO_4.out).2.2 | (with_reducible refine Kd.C_alloc ?_ _) | (with_reducible refine Kd.C_drewN ?_ _) | (with_reducible refine Kd.C_drew ?_))); (case side2 => exact (Kd.R_reads' HO_4.out).2.1); rintro e w27 ⟨v273, rfl, ho0, hb⟩; have n0_ := Aside0.mk (Kd.R_below (by (with_reducible repeat (first | apply Kd.R_alloc | apply Kd.R_drewN | apply Kd.R_drew)); exact HO_4.out) hb); have n1_ := Aside0.mk (Kd.R_below (by (with_reducible repeat (first | apply Kd.R_alloc | apply Kd.R_drewN | apply Kd.R_drew)); exact HO_5.out) hb); have n2_ := Aside0.mk (Kd.R_lower ho0 (below_size (by repeat (first | (with_reducible first | exact HB.out | apply below_alloc | apply pw_below_drewN | apply below_drew1) | exact HB.out)))); have n3_ := Aside0.mk (below_step (by repeat (first | (with_reducible first | exact HB.out | apply below_alloc | apply pw_below_drewN | apply below_drew1) | exact HB.out)) hb); clear HO_4; clear HO_5; clear HB; have HO_4 := n0_; have HO_5 := n1_; have HO274 := n2_; have HB := n3_; clear n0_ n1_ n2_ n3_; (try clear hb); (try clear hb2); (try clear hk); (try clear hi); (try clear ho0); obtain ⟨Ao28, co28, eo28⟩ := Kd.R_slice HO_5.out; subst eo28) | (go_at_call 14; (with_reducible refine (marquetryref14_Lengths.calls _ _ x5_1 t275 t276 _ ?side1 ?side2 A24.out).mono ?_); (case side1 => repeat (first | exact (Kd.R_reads' HO_5.out).2.2 | (with_reducible refine Kd.C_alloc ?_ _) | (with_reducible refine Kd.C_drewN ?_ _) | (with_reducible refine Kd.C_drew ?_))); (case side2 => exact (Kd.R_reads' HO_5.out).2.1); rintro e w29 ⟨v277, rfl, ho0, hb⟩; have n0_ := Aside0.mk (Kd.R_below (by (with_reducible repeat (first | apply Kd.R_alloc | apply Kd.R_drewN | apply Kd.R_drew)); exact HO_4.out) hb); have n1_ := Aside0.mk (Kd.R_below (by (with_reducible repeat (first | apply Kd.R_alloc | apply Kd.R_drewN | apply Kd.R_drew)); exact HO_5.out) hb); have n2_ := Aside0.mk (Kd.R_elder' (by (with_reducible repeat (first | apply Kd.R_alloc | apply Kd.R_drewN | apply Kd.R_drew)); exact HO274.out) (Kd.R_base ho0) hb); have n3_ := Aside0.mk (Kd.R_lower (Kd.R_new' ho0 (Kd.R_lt (by (with_reducible repeat (first | apply Kd.R_alloc | apply Kd.R_drewN | apply Kd.R_drew)); exact HO274.out))) (below_size (by repeat (first | (with_reducible first | exact HB.out | apply below_alloc | apply pw_below_drewN | apply below_drew1) | exact HB.out)))); have n4_ := Aside0.mk (below_step (by repeat (first | (with_reducible first | exact HB.out | apply below_alloc | apply pw_below_drewN | apply below_drew1) | exact HB.out)) hb); clear HO_4; clear HO_5; clear HO274; clear HB; have HO_4 := n0_; have HO_5 := n1_; have HO274 := n2_; have HO278 := n3_; have HB := n4_; clear n0_ n1_ n2_ n3_ n4_; (try clear hb); (try clear hb2); (try clear hk); (try clear hi); (try clear ho0); obtain ⟨Ao31, co31, eo31⟩ := Kd.R_slice HO278.out; subst eo31) | ((with_reducible refine gate_builtin (b := .append) (xs := #[.tmp 55, .tmp 56]) rfl ?_); at_builtin; refine Kd.R_append_rows (Kd.int .u8) (w0 := w) w.heap.size rfl (.tmp 55) (.tmp 56) 25 5 (.int .u8 0) 1 rfl Try.underlying25 info5 rfl (by decide) (by omega) v273 t271 t275 _ _ _ (fun k_ => some k_ ≠ (.slice Ao31 t275.length co31 : Value).ownBlock) (fun _ => False) rfl rfl ?aO ?aR (fun _ _ h => h) (fun _ h => h.elim) ?aF ?aB ?aS ?aL ?_; (case aR => repeat (first | exact (Kd.R_reads' HO278.out).2.2 | (with_reducible refine Kd.C_alloc ?_ _) | (with_reducible refine Kd.C_drewN ?_ _) | (with_reducible refine Kd.C_drew ?_))); (case aB => exact (by repeat (first | (with_reducible first | exact HB.out | apply below_alloc | apply pw_below_drewN | apply below_drew1) | exact HB.out))); (case aF => exact (fun k_ hk => Kd.fresh' (Kd.R_lt (by (with_reducible repeat (first | apply Kd.R_alloc | apply Kd.R_drewN | apply Kd.R_drew)); exact HO278.out)) k_ hk)); (case aO => exact (by (with_reducible repeat (first | apply Kd.R_alloc | apply Kd.R_drewN | apply Kd.R_drew)); exact Kd.R_mono HO274.out (fun _ hk => hk.2))); (case aS => exact (below_size (by repeat (first | (with_reducible first | exact HB.out | apply below_alloc | apply pw_below_drewN | apply below_drew1) | exact HB.out)))); (case aL => have := LMc25.out; omega); intro v280 w30 ho hb hg hat; rw [← Ny279.out] at ho; have n0_ := Aside0.mk (Kd.R_over' (by (with_reducible repeat (first | apply Kd.R_alloc | apply Kd.R_drewN | apply Kd.R_drew)); exact HO_4.out) (Kd.R_typed (by (with_reducible repeat (first | apply Kd.R_alloc | apply Kd.R_drewN | apply Kd.R_drew)); exact HO274.out)) (by decide) hg); have n1_ := Aside0.mk (Kd.R_over' (by (with_reducible repeat (first | apply Kd.R_alloc | apply Kd.R_drewN | apply Kd.R_drew)); exact HO_5.out) (Kd.R_typed (by (with_reducible repeat (first | apply Kd.R_alloc | apply Kd.R_drewN | apply Kd.R_drew)); exact HO274.out)) (by decide) hg); have n2_ := Aside0.mk (Kd.R_after (ok := (fun _ => True)) (by (with_reducible repeat (first | apply Kd.R_alloc | apply Kd.R_drewN | apply Kd.R_drew)); exact HO278.out) hg hat); have n3_ := Aside0.mk (hb); have n4_ := Aside0.mk (ho); clear HO_4; clear HO_5; clear HO278; clear HB; clear HO274; have HO_4 := n0_; have HO_5 := n1_; have HO278 := n2_; have HB := n3_; have HO281 := n4_; clear n0_ n1_ n2_ n3_ n4_; clear ho hb hg hat)))
      go_ret2
      exact ⟨_, by first | rfl | (simp [errW_none, errW_some] <;> rfl) | (simp [*, errW_none, errW_some] <;> rfl), by (with_reducible repeat (first | apply Kd.R_alloc | apply Kd.R_drewN | apply Kd.R_drew)); exact Kd.R_mono HO281.out (fun _ hk => trivial), by repeat (first | (with_reducible first | exact HB.out | apply below_alloc | apply pw_below_drewN | apply below_drew1) | exact HB.out)⟩
     ·rw [if_neg c25] at H
      exact absurd H (by simp)
end Go.Proofs.Ytcdephhplmcmjaa.X
end

section
namespace Go.Proofs.Ytcdephhplmcmjaa.X
open Go.RowKit Go.Proofs.YtcdephhplmcmjaaW.PrintWords Go.Proofs.YtcdephhplmcmjaaW.PrintLast Go.Proofs.YtcdephhplmcmjaaW.PrintMore
set_option linter.unusedVariables false
set_option linter.unusedSimpArgs false
theorem long14 (l : List ByteArray) (hs : ∀ s ∈ l, s.size ≤ 140737488351232) : ∀ (d k i n : Nat), i + d = l.length → d < k → i ≤ n → n ≤ 140737488354232 + 1 → ∃ r, marquetrylaw14_long.l0 k l (n : Int) (i : Int) = some r ∧ (r = false → n + totZ (l.drop i) + d ≤ 3000)
  | 0, k, i, n, h, hk, hi, hn => by
    obtain ⟨k, rfl⟩ : ∃ j, k = j + 1 := ⟨k - 1, by omega⟩
    rw [marquetrylaw14_long.l0, if_neg (by omega), List.drop_of_length_le (by omega)]
    exact ⟨_, rfl, fun h => by have := of_decide_eq_false h; rw [totZ]; omega⟩
  | d + 1, k, i, n, h, hk, hi, hn => by
    obtain ⟨k, rfl⟩ : ∃ j, k = j + 1 := ⟨k - 1, by omega⟩
    obtain ⟨s, hs0⟩ : ∃ s, l[i]? = some s := ⟨_, List.getElem?_eq_getElem (by omega)⟩
    have hsz := hs s (List.mem_of_getElem? hs0)
    rw [marquetrylaw14_long.l0, if_pos (by omega)]
    by_cases hc : n ≤ 3000
    · rw [if_pos (by omega), if_pos (by omega), rdOf_some hs0]
      have w1 : wrap64 ((wrap64 ((n : Int) + 1)) + (s.size : Int)) = ((n + 1 + s.size : Nat) : Int) := by
        rw [Bx.w64 (a := (n : Int) + 1) (by omega) (by omega), Bx.w64 (by omega) (by omega)]
        omega
      have w2 : wrap64 ((i : Int) + 1) = ((i + 1 : Nat) : Int) := by
        rw [Bx.w64 (by omega) (by omega)]
        omega
      rw [w1, w2]
      obtain ⟨r, h1, h2⟩ := long14 l hs d k (i + 1) (n + 1 + s.size) (by omega) (by omega) (by omega) (by omega)
      refine ⟨r, h1, fun hr => ?_⟩
      have := h2 hr
      rw [drop_at hs0, totZ]
      omega
    · rw [if_neg (by omega)]
      exact ⟨_, rfl, fun h => absurd (of_decide_eq_false h) (by omega)⟩
theorem long14_all (l : List ByteArray) (hs : ∀ s ∈ l, s.size ≤ 140737488351232) : ∃ r, marquetrylaw14_long.f (l.length + 1) l = some r ∧ (r = false → totZ l + l.length ≤ 3000) := by
  obtain ⟨r, h1, h2⟩ := long14 l hs l.length (l.length + 1) 0 0 (by omega) (by omega) (by omega) (by omega)
  refine ⟨r, h1, fun h => ?_⟩
  have := h2 h
  rw [List.drop_zero] at this
  omega
end Go.Proofs.Ytcdephhplmcmjaa.X
end

section
namespace Go.Proofs.Ytcdephhplmcmjaa.X
open Go.RowKit Go.Proofs.YtcdephhplmcmjaaW.PrintWords Go.Proofs.YtcdephhplmcmjaaW.PrintLast Go.Proofs.YtcdephhplmcmjaaW.PrintMore
set_option linter.unusedVariables false
set_option linter.unusedSimpArgs false
def lastZ (l : List ByteArray) (last : ByteArray) (i : Nat) : ByteArray := if i = 0 then last else l.getD (i - 1) last
theorem pairsF_take : ∀ (l : List ByteArray) (last : ByteArray) (i : Nat) (s : ByteArray), l[i]? = some s → (pairsF last l).take (i + 1) = (pairsF last l).take i ++ [(((comZ (lastZ l last i) s : Nat) : Int), s)]
  | [], last, i, s, h => by cases h
  | t :: l, last, 0, s, h => by
    obtain rfl : t = s := by simpa using h
    rfl
  | t :: l, last, i + 1, s, h => by
    have h' : l[i]? = some s := by simpa using h
    have := pairsF_take l t i s h'
    rw [pairsF, List.take_succ_cons, this, List.take_succ_cons, List.cons_append]
    have e : lastZ (t :: l) last (i + 1) = lastZ l t i := by
      unfold lastZ
      rw [if_neg (by omega)]
      cases i with
      | zero => rfl
      | succ j =>
        rw [if_neg (by omega)]
        have hj : j < l.length := by
          rcases Nat.lt_or_ge (j + 1) l.length with h2 | h2
          · omega
          · rw [List.getElem?_eq_none h2] at h'; cases h'
        simp [List.getD_eq_getElem?_getD, List.getElem?_eq_getElem hj]
    rw [e]
theorem size_long {l : List ByteArray} (h : longZ l = false) {i : Nat} {s : ByteArray} (hs : l[i]? = some s) : s.size ≤ 1048576 := by
  have := (longZ_no h).1
  have := totZ_at hs
  omega
theorem refCommonL (a b : ByteArray) (ha : a.size ≤ 2000000) (hb : b.size ≤ 2000000) : ∀ (d k i : Nat), a.size = i + d → d < k → comZ a b = i + comL (a.data.toList.drop i) (b.data.toList.drop i) → marquetryref14_Common.l0 k a b (i : Int) = some ((comZ a b : Nat) : Int)
  | 0, k, i, h, hk, he => by
    obtain ⟨k, rfl⟩ : ∃ j, k = j + 1 := ⟨k - 1, by omega⟩
    rw [comL_end _ _ i (by rw [data_length, data_length]; omega)] at he
    rw [marquetryref14_Common.l0, if_neg (by omega), he]
    rfl
  | d + 1, k, i, h, hk, he => by
    obtain ⟨k, rfl⟩ : ∃ j, k = j + 1 := ⟨k - 1, by omega⟩
    rw [marquetryref14_Common.l0, if_pos (by omega)]
    by_cases hi : i < b.size
    · have l1 : i < a.data.toList.length := by rw [data_length]; omega
      have l2 : i < b.data.toList.length := by rw [data_length]; omega
      rw [if_pos (by omega), if_pos (by omega)]
      rw [comL_step _ _ i l1 l2] at he
      by_cases hc : bt a (i : Int) = bt b (i : Int)
      · rw [if_pos ((bt_eq a b i l1 l2).1 hc)] at he
        rw [if_pos hc, show wrap64 ((i : Int) + 1) = ((i + 1 : Nat) : Int) by rw [Bx.w64 (by omega) (by omega)]; omega]
        exact refCommonL a b ha hb d k (i + 1) (by omega) (by omega) (by omega)
      · rw [if_neg (fun e => hc ((bt_eq a b i l1 l2).2 e))] at he
        rw [if_neg hc, he]
        rfl
    · rw [comL_end _ _ i (by rw [data_length, data_length]; omega)] at he
      rw [if_neg (by omega), he]
      rfl
theorem refCommon0 {k : Nat} {a b : ByteArray} (ha : a.size ≤ 1048576) (hb : b.size ≤ 1048576) (hk : 1048577 ≤ k) : marquetryref14_Common.f k a b = some ((comZ a b : Nat) : Int) := by
  unfold marquetryref14_Common.f
  refine refCommonL a b (by omega) (by omega) a.size k 0 (by omega) (by omega) ?_
  rw [List.drop_zero, List.drop_zero]
  unfold comZ
  omega
theorem tq_l0 {l : List ByteArray} (hz : longZ l = false) : ∀ (d k i : Nat) (xs : List Int) (ys : List ByteArray), i + d = l.length → d + 1200000 ≤ k → xs = firstsZ ((pairsZ l).take i) → ys = restsZ ((pairsZ l).take i) →
    marquetryref14_Prefixes.l0 k l xs ys (i : Int) = some ((prefixesZ l).1, 0)
  | 0, k, i, xs, ys, h, hk, hx, hy => by
    obtain ⟨k, rfl⟩ : ∃ j, k = j + 1 := ⟨k - 1, by omega⟩
    obtain ⟨h1, h2⟩ := longZ_no hz
    have hpl : (pairsZ l).length = l.length := pairsF_length _ _
    rw [List.take_of_length_le (by omega)] at hx hy
    have e1 : marquetryref13_Write.f k xs = some (D13.listB xs, 0) := D13.ref_write (by rw [hx, firsts_len]; omega) (by rw [hx]; exact firsts_in hz) (by rw [hx, firsts_len]; omega)
    have e2 : marquetryref14_Lengths.f ys = some ((lengthsZ ys).1, 0) := by
      unfold marquetryref14_Lengths.f
      rw [if_pos (by rw [hy]; exact rests_short hz)]
    have b1 := D13.listB_short (L := xs) (by rw [hx]; exact firsts_in hz) (by rw [hx, firsts_len]; omega)
    have b2 := lengthsZ_len (l := ys) (by rw [hy]; exact rests_short hz)
    rw [marquetryref14_Prefixes.l0, if_neg (by omega)]
    simp only [e1, e2, Option.bind_some]
    rw [if_pos (by omega), prefixesZ_fine hz, ← hx, ← hy]
  | d + 1, k, i, xs, ys, h, hk, hx, hy => by
    obtain ⟨k, rfl⟩ : ∃ j, k = j + 1 := ⟨k - 1, by omega⟩
    obtain ⟨h1, h2⟩ := longZ_no hz
    obtain ⟨s, hs⟩ : ∃ s, l[i]? = some s := ⟨_, List.getElem?_eq_getElem (by omega)⟩
    have hp := pairsF_take l ⟨#[]⟩ i s hs
    have hpl : (pairsZ l).length = l.length := pairsF_length _ _
    have hxl : xs.length ≤ i := by rw [hx, firstsZ_length, List.length_take]; omega
    have hyl : ys.length ≤ i := by rw [hy, restsZ, List.length_map, List.length_take]; omega
    have w2 : wrap64 ((i : Int) + 1) = ((i + 1 : Nat) : Int) := by rw [Bx.w64 (by omega) (by omega)]; omega
    have hx2 : xs ++ [((comZ (lastZ l ⟨#[]⟩ i) s : Nat) : Int)] = firstsZ ((pairsZ l).take (i + 1)) := by
      unfold pairsZ at hx ⊢
      rw [hp, hx]
      simp [firstsZ]
    have hy2 : ys ++ [s.extract (comZ (lastZ l ⟨#[]⟩ i) s) s.size] = restsZ ((pairsZ l).take (i + 1)) := by
      unfold pairsZ at hy ⊢
      rw [hp, restsZ_append, hy]
      rfl
    have ih := tq_l0 hz d k (i + 1) _ _ (by omega) (by omega) hx2 hy2
    have hle := comZ_le (lastZ l ⟨#[]⟩ i) s
    rw [marquetryref14_Prefixes.l0, if_pos (by omega)]
    by_cases c : 0 < i
    · obtain ⟨t, ht⟩ : ∃ t, l[i - 1]? = some t := ⟨_, List.getElem?_eq_getElem (by omega)⟩
      have e : lastZ l ⟨#[]⟩ i = t := by
        unfold lastZ
        rw [if_neg (by omega), List.getD_eq_getElem?_getD, ht]
        rfl
      have w1 : wrap64 ((i : Int) - 1) = ((i - 1 : Nat) : Int) := by rw [Bx.w64 (by omega) (by omega)]; omega
      rw [e] at ih hle
      rw [if_pos (by omega), w1, if_pos (by omega), if_pos (by omega), if_pos (by omega), rdOf_some ht, rdOf_some hs, refCommon0 (size_long hz ht) (size_long hz hs) (by omega), Option.bind_some]
      rw [if_pos (by omega), if_pos (by omega), if_pos (by omega), if_pos (by omega), w2, Int.toNat_natCast]
      exact ih
    · obtain rfl : i = 0 := by omega
      have e : comZ (lastZ l ⟨#[]⟩ 0) s = 0 := by
        have h3 : lastZ l ⟨#[]⟩ 0 = ⟨#[]⟩ := rfl
        rw [h3] at hle ⊢
        exact Nat.le_zero.1 hle.1
      rw [e] at ih
      rw [if_neg (by omega), if_pos (by omega), if_pos (by omega), rdOf_some hs, if_pos (by omega), if_pos (by omega), w2]
      exact ih
theorem ref_prefixes {k : Nat} {l : List ByteArray} (hz : longZ l = false) (hk : 1300000 ≤ k) : marquetryref14_Prefixes.f k l = some ((prefixesZ l).1, 0) := by
  obtain ⟨h1, h2⟩ := longZ_no hz
  unfold marquetryref14_Prefixes.f
  rw [tn_long0 hz (by omega), Option.bind_some, if_neg (by decide)]
  exact tq_l0 hz l.length k 0 [] [] (by omega) (by omega) (by rw [List.take_zero]; rfl) (by rw [List.take_zero]; rfl)
end Go.Proofs.Ytcdephhplmcmjaa.X
end

section
namespace Go.Proofs.Ytcdephhplmcmjaa.X
open Go.RowKit Go.Proofs.YtcdephhplmcmjaaW.PrintWords Go.Proofs.YtcdephhplmcmjaaW.PrintLast Go.Proofs.YtcdephhplmcmjaaW.PrintMore
set_option linter.unusedVariables false
set_option linter.unusedSimpArgs false
theorem tw_slice {P : Program} {t e : TypeId} {i : TypeInfo} (ht : P.underlying t = some (.slice e)) (hi : P.info? e = some i) (hsz : i.size = 1) (A : Option Addr) (n c m : Nat) (hm : m ≤ c) (W : World) : (Instr.slice t (.slice A n c) none (some (.int .i64 (m : Int))) none).run P W = .ok (.slice A m c) W := by
  have hel : P.elem t = e := by simp [Program.elem, ht]
  have hu : P.underlying t = some (.slice (P.elem t)) := by rw [hel]; exact ht
  have ha : (A.map fun x => x.add 0) = A := by cases A <;> simp [Addr.add]
  rw [run_slice_h W t A n c hu .i64 (m : Int) (by omega) (by omega), hel]
  simp [sizeOf, typeInfo, hi, hsz, sliced, Result.andThen, ha]
set_option maxRecDepth 100000 in
set_option maxHeartbeats 4000000 in
theorem tw_main (A : Option Addr) (c : Nat) (l p : List ByteArray) (a b : List Int) (w : World) (hC : Kd.C Kd.string w A l.length l) (hc : l.length ≤ c) (hl : l.length ≤ 3000) (hp : p = l ++ [(⟨#[115, 112, 97, 114, 101]⟩ : ByteArray)])
    (hlo : marquetrylaw14_long.f (l.length + 1) l = some false) (hA : strings_Lengths.f l = some (a, 0)) (hB : strings_Prefixes.f l = some (b, 0)) (hRA : marquetryref14_Lengths.f l = some (a, 0)) (hRB : marquetryref14_Prefixes.f 1300000 l = some (b, 0)) (hS : marquetrylaw14_same.f (l.length + 1) l l = some true) :
    Calls Try.prog 3 #[.slice A l.length c] w fun e w' => e = .returned (.bool true) ∧ Below w.heap.size w w' := by
  have HC := Aside0.mk hC
  have HLO := Aside0.mk (marquetrylaw14_long.calls (l.length + 1) A c l false w hC hc hlo)
  have HCA := Aside0.mk (fun (W : World) (Az : Option Addr) (cz : Nat) (h : Kd.C Kd.string W Az l.length l) (hcz : l.length ≤ cz) => strings_Lengths.calls Az cz l _ _ W h hcz hA)
  have HCB := Aside0.mk (fun (W : World) (Az : Option Addr) (cz : Nat) (h : Kd.C Kd.string W Az l.length l) (hcz : l.length ≤ cz) => strings_Prefixes.calls Az cz l _ _ W h hcz hB)
  have HRA := Aside0.mk (fun (W : World) (h : Kd.C Kd.string W A l.length l) => marquetryref14_Lengths.calls A c l _ _ W h hc hRA)
  have HRB := Aside0.mk (fun (W : World) (h : Kd.C Kd.string W A l.length l) => marquetryref14_Prefixes.calls 1300000 A c l _ _ W h hc hRB)
  have HCS := Aside0.mk (fun (W : World) (Az : Option Addr) (cz : Nat) (h : Kd.C Kd.string W Az l.length l) (hcz : l.length ≤ cz) (h2 : Kd.C Kd.string W A l.length l) => marquetrylaw14_same.calls (l.length + 1) Az cz l A c l true W h hcz h2 hc hS)
  have HP := Aside0.mk hp
  have HPL := Aside0.mk (show p.length = l.length + 1 by rw [hp]; simp)
  have HPA := Aside0.mk (show p[l.length]? = some (⟨#[115, 112, 97, 114, 101]⟩ : ByteArray) by rw [hp]; simp)
  have HPT := Aside0.mk (show p.take l.length = l by rw [hp]; simp)
  clear hC hlo hA hB hRA hRB hS hp
  go_enter Try.func3, Try.ntmps3
  go_wp2_with fail
  refine HLO.out.mono ?_
  rintro e W0 ⟨rfl, ⟨nd, hnd⟩⟩
  have HB0 := Aside0.mk (show Below w.heap.size w W0 from (by rw [hnd]; exact pw_below_drewN (Below.refl _ _) _))
  clear hnd HLO
  have HCp := Aside0.mk (Kd.C_below HC.out HB0.out)
  go_wp2_with (first
    | ((with_reducible refine gate_dst (N := 15) rfl ?_); refine Kd.R_lit Kd.string _ 9 ?hg (N := 15) ?hd (xs := ([] : List ByteArray)) (inner := []) (ok := fun _ => True) (okp := fun _ => True) ?hr ?hp (fun _ hk => hk) trivial (Below.refl _ _) (Nat.le_refl _) (by simp) ?_; (case hd => rfl); (case hg => rfl); (case hr => first | (go_simp; done) | (go_simp; rfl)); (case hp => exact (Reps.none _ _)); intro u1 w1 ho1 hb1 hg_ hnew_; clear hg_ hnew_; have HO1 := Aside0.mk (Kd.R_lower ho1 (Nat.le_refl W0.heap.size)); have HD1 := Aside0.mk hb1; have HC1 := Aside0.mk (Kd.C_below HCp.out hb1); have HS1 := Aside0.mk hb1.size; clear ho1 hb1)
    | ((with_reducible refine gate_builtin (b := .append) (xs := #[.tmp 15, .tmp 16]) rfl ?_); at_builtin; refine Kd.R_append_rows Kd.string (w0 := W0) W0.heap.size rfl (.tmp 15) (.tmp 16) 22 9 (.string ⟨#[]⟩) 16 rfl Try.underlying22 ss_info rfl (by decide) (by omega) u1 [] l _ _ _ (fun _ => True) (fun _ => False) rfl rfl HO1.out HC1.out (fun _ _ h => h) (fun _ h => h.elim) (fun _ _ => trivial) HD1.out HS1.out (by simp; omega) ?_; intro u2 w2 ho2 hb2 hg2 hat2; rw [List.nil_append] at ho2; have HO2 := Aside0.mk ho2; have HD2 := Aside0.mk hb2; have HS2 := Aside0.mk hb2.size; clear ho2 hb2 hg2 hat2)
    | ((with_reducible refine gate_builtin (b := .append) (xs := #[.tmp 17, .tmp 18]) rfl ?_); at_builtin; refine Kd.R_append Kd.string (w0 := W0) W0.heap.size rfl (.tmp 17) (.tmp 18) 22 9 (.string ⟨#[]⟩) 16 rfl Try.underlying22 ss_info rfl (by decide) (by omega) u2 l (⟨#[115, 112, 97, 114, 101]⟩ : ByteArray) [.string (⟨#[115, 112, 97, 114, 101]⟩ : ByteArray)] (fun _ => True) (fun _ => False) rfl rfl rfl (fun _ hk => hk.elim) (fun _ _ => trivial) HO2.out HD2.out HS2.out (by omega) ?_; intro u3 w3 ho3 hb3 hg3 hat3; rw [← HP.out] at ho3; obtain ⟨A3, c3, rfl⟩ := Kd.R_slice ho3; have HR3 := Aside0.mk (Kd.R_reads' ho3).2; have HB3 := Aside0.mk (below_then HB0.out HB0.out.size hb3); obtain ⟨i0, hi0, _, hsz, _⟩ := info_parts info9; have hsl := tw_slice (P := Try.prog) Try.underlying22 hi0 hsz A3 p.length c3 l.length (by have := HR3.out.1; have := HPL.out; omega); clear hi0 hsz ho3 hb3 hg3 hat3))
  have HK3 := Aside0.mk (show l.length + 1 ≤ c3 from by have := HR3.out.1; have := HPL.out; omega)
  have HM3 := Aside0.mk (show Kd.C Kd.string w3 A3 l.length l from by have h := Kd.C_take (m := l.length) HR3.out.2 (by have := HPL.out; omega); rw [HPT.out] at h; exact h)
  clear HO2 HO1 HD1 HD2 HS1 HS2 HC1 HCp hsl HB0
  refine (HCA.out _ _ _ HM3.out (by have := HK3.out; omega)).mono ?_
  rintro e W4 ⟨v4, rfl, hR4, hb4⟩
  obtain ⟨A4, c4, rfl, hc4, hC4⟩ := Kd.R_reads hR4
  have HB4 := Aside0.mk (below_then HB3.out HB3.out.size hb4)
  have HM4 := Aside0.mk (Kd.C_below HR3.out.2 hb4)
  have HA4 := Aside0.mk hC4
  have HN4 := Aside0.mk (Kd.C_below HM3.out hb4)
  clear hR4 hb4 hC4 HM3 HB3
  go_wp2_with fail
  refine (HCB.out _ _ _ HN4.out (by have := HK3.out; omega)).mono ?_
  rintro e W5 ⟨v5, rfl, hR5, hb5⟩
  obtain ⟨A5, c5, rfl, hc5, hC5⟩ := Kd.R_reads hR5
  have HB5 := Aside0.mk (below_then HB4.out HB4.out.size hb5)
  have HM5 := Aside0.mk (Kd.C_below HM4.out hb5)
  have HN5 := Aside0.mk (Kd.C_below HN4.out hb5)
  have HA5 := Aside0.mk (Kd.C_below HA4.out hb5)
  have HE5 := Aside0.mk hC5
  clear hR5 hb5 hC5 HM4 HN4 HA4 HB4
  go_wp2_with fail
  refine (HRA.out _ (Kd.C_below HC.out HB5.out)).mono ?_
  rintro e W6 ⟨v6, rfl, hR6, hb6⟩
  obtain ⟨A6, c6, rfl, hc6, hC6⟩ := Kd.R_reads hR6
  have HB6 := Aside0.mk (below_then HB5.out HB5.out.size hb6)
  have HM6 := Aside0.mk (Kd.C_below HM5.out hb6)
  have HN6 := Aside0.mk (Kd.C_below HN5.out hb6)
  have HA6 := Aside0.mk (Kd.C_below HA5.out hb6)
  have HE6 := Aside0.mk (Kd.C_below HE5.out hb6)
  have HF6 := Aside0.mk hC6
  clear hR6 hb6 hC6 HM5 HN5 HA5 HE5 HB5
  go_wp2_with fail
  refine (HRB.out _ (Kd.C_below HC.out HB6.out)).mono ?_
  rintro e W7 ⟨v7, rfl, hR7, hb7⟩
  obtain ⟨A7, c7, rfl, hc7, hC7⟩ := Kd.R_reads hR7
  have HB7 := Aside0.mk (below_then HB6.out HB6.out.size hb7)
  have HM7 := Aside0.mk (Kd.C_below HM6.out hb7)
  have HN7 := Aside0.mk (Kd.C_below HN6.out hb7)
  have cvA : (convert 25 9 (.slice A4 a.length c4)).run Try.prog W7 = .ok (.string (strOfNums a)) W7 := Kd.C_string Try.underlying25 Try.underlying5 Try.underlying9 (Kd.C_below HA6.out hb7)
  have cvB : (convert 25 9 (.slice A5 b.length c5)).run Try.prog W7 = .ok (.string (strOfNums b)) W7 := Kd.C_string Try.underlying25 Try.underlying5 Try.underlying9 (Kd.C_below HE6.out hb7)
  have cvC : (convert 25 9 (.slice A6 a.length c6)).run Try.prog W7 = .ok (.string (strOfNums a)) W7 := Kd.C_string Try.underlying25 Try.underlying5 Try.underlying9 (Kd.C_below HF6.out hb7)
  have cvD : (convert 25 9 (.slice A7 b.length c7)).run Try.prog W7 = .ok (.string (strOfNums b)) W7 := Kd.C_string Try.underlying25 Try.underlying5 Try.underlying9 hC7
  clear hR7 hb7 hC7 HM6 HN6 HA6 HE6 HF6 HB6
  obtain ⟨sa, hsa⟩ : ∃ sa, sa = strOfNums a := ⟨_, rfl⟩
  obtain ⟨sb, hsb⟩ : ∃ sb, sb = strOfNums b := ⟨_, rfl⟩
  rw [← hsa] at cvA cvC
  rw [← hsb] at cvB cvD
  clear hsa hsb
  go_wp2_with fail
  refine (num14_same _ _).mono ?_
  rintro e W8 ⟨rfl, ⟨nd8, hnd⟩⟩
  have HB8 := Aside0.mk (show Below w.heap.size w W8 from (by rw [hnd]; exact pw_below_drewN HB7.out _))
  have HM8 := Aside0.mk (show Kd.C Kd.string W8 A3 p.length p from (by rw [hnd]; exact Kd.C_drewN HM7.out _))
  have HN8 := Aside0.mk (show Kd.C Kd.string W8 A3 l.length l from (by rw [hnd]; exact Kd.C_drewN HN7.out _))
  clear hnd HB7 HM7 HN7 cvA cvB cvC cvD
  go_wp2_with fail
  refine (num14_same _ _).mono ?_
  rintro e W9 ⟨rfl, ⟨nd9, hnd⟩⟩
  have HB9 := Aside0.mk (show Below w.heap.size w W9 from (by rw [hnd]; exact pw_below_drewN HB8.out _))
  have HM9 := Aside0.mk (show Kd.C Kd.string W9 A3 p.length p from (by rw [hnd]; exact Kd.C_drewN HM8.out _))
  have HN9 := Aside0.mk (show Kd.C Kd.string W9 A3 l.length l from (by rw [hnd]; exact Kd.C_drewN HN8.out _))
  clear hnd HB8 HM8 HN8
  go_wp2_with fail
  refine (HCS.out _ _ _ HN9.out (by have := HK3.out; omega) (Kd.C_below HC.out HB9.out)).mono ?_
  rintro e W10 ⟨rfl, ⟨nd10, hnd⟩⟩
  have HB10 := Aside0.mk (show Below w.heap.size w W10 from (by rw [hnd]; exact pw_below_drewN HB9.out _))
  obtain ⟨ad, rfl, hcell⟩ := str_at (show Kd.C Kd.string W10 A3 p.length p from (by rw [hnd]; exact Kd.C_drewN HM9.out _)) HPA.out
  obtain ⟨i0, hi0, _, hsz, _⟩ := info_parts info9
  have hsl := tw_slice (P := Try.prog) Try.underlying22 hi0 hsz (some ad) l.length c3 (l.length + 1) HK3.out
  have hw1 : IntKind.i64.wrap ((l.length : Int) + 1) = ((l.length + 1 : Nat) : Int) := by rw [IntWalk.i64_in _ (by omega)]; omega
  obtain ⟨m, hm⟩ : ∃ m, m = l.length + 1 := ⟨_, rfl⟩
  rw [← hm] at hsl hw1
  have p1 : (0 : Int) ≤ (l.length : Int) := by omega
  have p2 : (l.length : Int) < (m : Int) := by omega
  have p3 : ((l.length : Int)).toNat = l.length := rfl
  clear hnd HB9 HM9 HN9 hi0 hsz hm
  go_wp2_with fail
  refine (works14_true _).mono ?_
  rintro e Wz ⟨rfl, hbz⟩
  have HBz := Aside0.mk (below_then HB10.out HB10.out.size hbz)
  clear hbz
  go_wp2
  go_ret
  exact ⟨rfl, HBz.out⟩
theorem tw_long (A : Option Addr) (c : Nat) (l : List ByteArray) (w : World) (hC : Kd.C Kd.string w A l.length l) (hc : l.length ≤ c) (hlo : marquetrylaw14_long.f (l.length + 1) l = some true) :
    Calls Try.prog 3 #[.slice A l.length c] w fun e w' => e = .returned (.bool true) ∧ Below w.heap.size w w' := by
  have HLO := Aside0.mk (marquetrylaw14_long.calls (l.length + 1) A c l true w hC hc hlo)
  clear hC hlo
  go_enter Try.func3, Try.ntmps3
  go_wp2_with fail
  refine HLO.out.mono ?_
  rintro e W0 ⟨rfl, ⟨nd, hnd⟩⟩
  have HB0 := Aside0.mk (show Below w.heap.size w W0 from (by rw [hnd]; exact pw_below_drewN (Below.refl _ _) _))
  clear hnd
  go_wp2_with fail
  refine (works14_true _).mono ?_
  rintro e Wz ⟨rfl, hbz⟩
  have HBz := Aside0.mk (below_then HB0.out HB0.out.size hbz)
  clear hbz
  go_wp2
  go_ret
  exact ⟨rfl, HBz.out⟩
theorem tw_all (A : Option Addr) (c : Nat) (l : List ByteArray) (w : World) (hC : Kd.C Kd.string w A l.length l) (hc : l.length ≤ c) (hs : ∀ s ∈ l, s.size ≤ 140737488351232) :
    Calls Try.prog 3 #[.slice A l.length c] w fun e w' => e = .returned (.bool true) ∧ Below w.heap.size w w' := by
  obtain ⟨r, hlo, hsm⟩ := long14_all l hs
  cases r with
  | true => exact tw_long A c l w hC hc hlo
  | false =>
    have hsm := hsm rfl
    have hz : longZ l = false := decide_eq_false (by omega)
    exact tw_main A c l _ (lengthsZ l).1 (prefixesZ l).1 w hC hc (by omega) rfl hlo ((fLengths hz).trans (by rw [lengthsZ_fine hz])) ((fPrefixes hz).trans (by unfold prefixesZ; rw [if_neg (by rw [hz]; decide)])) (by unfold marquetryref14_Lengths.f; rw [if_pos hz]) (ref_prefixes hz (by decide)) (sameS (by omega) (by omega))
end Go.Proofs.Ytcdephhplmcmjaa.X
end

section
namespace Go.Proofs.Ytcdephhplmcmjaa.X
open Go.RowKit Go.Proofs.YtcdephhplmcmjaaW.PrintWords Go.Proofs.YtcdephhplmcmjaaW.PrintLast Go.Proofs.YtcdephhplmcmjaaW.PrintMore
attribute [local go_sem] max2_int min2_int max_two min_two max_three min_three max_four min_four
set_option linter.unusedVariables false
set_option linter.unusedSimpArgs false
def marquetrylaw14_StringsWrites.f (l0 : List ByteArray) : Option Bool := if (∀ s ∈ l0, s.size ≤ 140737488351232) then some true else none
theorem marquetrylaw14_StringsWrites.calls (A0 : Option Addr) (c0 : Nat) (l0 : List ByteArray) (r : Bool) (w : World) (hr0 : Kd.C Kd.string w A0 l0.length l0) (hc0 : l0.length ≤ c0) (h : marquetrylaw14_StringsWrites.f l0 = some r) :
    Calls Try.prog 3 #[.slice A0 l0.length c0] w fun e w' => e = .returned (.bool r) ∧ Below w.heap.size w w' := by
  unfold marquetrylaw14_StringsWrites.f at h
  by_cases hu : ∀ s ∈ l0, s.size ≤ 140737488351232
  · rw [if_pos hu] at h
    obtain rfl := Option.some.inj h
    exact tw_all A0 c0 l0 w hr0 hc0 hu
  · rw [if_neg hu] at h; cases h
def marquetrylaw14_StringsWrites.Pure : Prop := ∀ (l0 : List ByteArray), ((∀ x_ ∈ l0, x_.size ≤ 140737488351232) ∧ l0.length ≤ maxLen ∧ l0.length * 16 ≤ 140737488351232) → marquetrylaw14_StringsWrites.f l0 = some true
end Go.Proofs.Ytcdephhplmcmjaa.X
end

section
namespace Go.Proofs.Ytcdephhplmcmjaa.Rd
open Go.ChangeShapes Go.WideShapes Go.Deep Go.RowKit Go.Joins Go.Proofs.YtcdephhplmcmjaaW.PrintWords
structure Opens (P : Program) (t : TypeId) {α : Type} (d : Kd α) (Wf : α → Prop) : Prop where
  opens : ∀ {H : Type} {enc : TypeId × Value → H} {w : World} {base : Nat} {spare : Nat → Bool} {held : Bool} {n : Nat} {cs : List Value} {y : DataW H × List MemPlace},
    DataW.trod enc P w base spare held n t cs = some y → (∀ m ∈ y.1.weights P t, m ≤ reachBytes) → ∃ x, d.K w x cs ∧ Wf x
theorem reach_le {m : Nat} (h : m ≤ reachBytes) : m ≤ 140737488351232 := h
theorem opens_string {P : Program} {t : TypeId} (hu : P.underlying t = some .string) : Opens P t Kd.string (fun x => x.size ≤ 140737488351232) := by
  refine ⟨fun {H enc w base spare held n cs y} h hw => ?_⟩
  obtain ⟨x, rfl, hx, _⟩ := DataW.trod_string hu h
  subst hx
  refine ⟨x, rfl, ?_⟩
  have := hw x.data.toList.length (by simp [DataW.weights])
  rw [Array.length_toList] at this
  exact this
theorem list_of {α : Type} {p : Nat → α → Prop} : ∀ (n : Nat), (∀ i, i < n → ∃ x, p i x) → ∃ xs : List α, xs.length = n ∧ ∀ i x, xs[i]? = some x → p i x
  | 0, _ => ⟨[], rfl, fun i x h => by simp at h⟩
  | n + 1, h => by
    obtain ⟨xs, hl, hx⟩ := list_of n (fun i hi => h i (by omega))
    obtain ⟨x, hp⟩ := h n (by omega)
    refine ⟨xs ++ [x], by simp [hl], fun i y hy => ?_⟩
    rcases Nat.lt_or_ge i xs.length with hi | hi
    · rw [List.getElem?_append_left hi] at hy; exact hx i y hy
    · have hi' : i = xs.length := by
        have := (List.getElem?_eq_some_iff.1 hy).1
        simp at this; omega
      subst hi'
      have : x = y := by simpa using hy
      subst this
      rw [hl]; exact hp
theorem weights_all {H : Type} {P : Program} {e : TypeId} : ∀ (ds : List (DataW H)) (d : DataW H), d ∈ ds → ∀ m ∈ d.weights P e, m ∈ DataW.weightsAll P e ds
  | [], d, h, _, _ => by simp at h
  | d0 :: ds, d, h, m, hm => by
    simp only [DataW.weightsAll, List.mem_append]
    rcases List.mem_cons.1 h with rfl | h
    · exact .inl hm
    · exact .inr (weights_all ds d h m hm)
theorem opens_slice {P : Program} {t e : TypeId} {α : Type} {d : Kd α} {Wf : α → Prop} {B : Nat} (hu : P.underlying t = some (.slice e)) (hsz : P.cellsOf e = d.sz) (hB : P.bytesOf e = B) (ho : Opens P e d Wf) :
    Opens P t (Kd.slice e d) (fun xs => (∀ x ∈ xs, Wf x) ∧ xs.length ≤ maxLen ∧ xs.length * B ≤ 140737488351232) := by
  refine ⟨fun {H enc w base spare held n cs y} h hw => ?_⟩
  rcases open_slice hu h with ⟨rfl, _⟩ | ⟨a, len, cap, m, n', D, Pl, rfl, hb, hl, hm, hmm, rfl, hx⟩
  · exact ⟨[], ⟨none, 0, rfl, Nat.le_refl _, rfl, Nat.zero_le _, fun h => absurd h (by simp)⟩, by simp⟩
  · have hlm : len ≤ m := by rw [hmm]; split <;> omega
    have hsize : len * B ≤ 140737488351232 := by
      have := hw ((((List.range len).map D).length + ((List.range (m - len)).map fun j => D (len + j)).length) * P.bytesOf e) (by simp [DataW.weights, hu])
      rw [hB] at this
      refine Nat.le_trans (Nat.mul_le_mul_right _ ?_) (reach_le this)
      simp
    obtain ⟨xs, hxl, hxs⟩ := list_of (p := fun i x => ∃ cs', w.cells? base (a.add (i * P.cellsOf e)) (P.cellsOf e) = some cs' ∧ d.K w x cs' ∧ Wf x) len (fun i hi => by
      obtain ⟨cs', h1, h2⟩ := hx i (by omega)
      obtain ⟨x, hk, hwf⟩ := ho.opens h2 (fun q hq => hw q (by
        simp only [DataW.weights, hu, List.mem_cons, List.mem_append]
        exact .inr (.inl (weights_all _ (D i) (List.mem_map.2 ⟨i, List.mem_range.2 hi, rfl⟩) q hq))))
      exact ⟨x, cs', h1, hk, hwf⟩)
    subst hxl
    refine ⟨xs, ⟨some a, cap, rfl, hl, rfl, ?_, fun _ => ⟨a, rfl, fun j p hp => ?_⟩⟩, ⟨fun x hx' => ?_, Nat.le_trans hl hm, hsize⟩⟩
    · unfold maxLen at hm; omega
    · obtain ⟨cs', h1, hk, _⟩ := hxs j p hp
      obtain ⟨_, hcl, hcc⟩ := World.cells?_some h1
      refine ⟨cs', by rw [hcl, hsz], hk, fun i u hiu => ?_⟩
      have hi : i < P.cellsOf e := by rw [← hcl]; exact (List.getElem?_eq_some_iff.1 hiu).1
      rw [← hsz, ← Go.Deep.add_add, hcc i hi]
      exact hiu
    · obtain ⟨i, hi⟩ := List.getElem?_of_mem hx'
      exact (hxs i x hi).choose_spec.2.2
theorem one_of {P : Program} {fs : Array Field} (hone : oneCellFields P fs = true) {j : Nat} {f : Field} (h : fs.toList[j]? = some f) : f.offset = j ∧ P.cellsOf f.type = 1 := hone_of hone j f (by simpa using h)
theorem opens_arg {P : Program} {t : TypeId} {α : Type} {d : Kd α} {Wf : α → Prop} (ho : Opens P t d Wf) {H : Type} {enc : TypeId × Value → H} {w : World} {base : Nat} {spare : Nat → Bool} {held : Bool} {v : Value} {dt : DataW H} {p : List MemPlace}
    (h : DataW.Trod enc P w base spare held t v dt p) {ts : List TypeId} {ds : List (DataW H)} {j : Nat} (hsz : (DataW.weightsEach P ts ds).all (· ≤ reachBytes) = true) (ht : ts[j]? = some t) (hd : ds[j]? = some dt) : ∃ x, d.K w x v.cells.toList ∧ Wf x := by
  obtain ⟨n, hn⟩ := h
  refine ho.opens hn (fun m hm => ?_)
  have := List.all_eq_true.1 hsz m (DataW.weights_mem_each ht hd m hm)
  simpa using this
end Go.Proofs.Ytcdephhplmcmjaa.Rd
end
