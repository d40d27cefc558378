/- DeltaPacks: texts of this seat in one (wip/merge.py): Md, Me, Mf, Ga, Gk, Mr, Mt, Gw, Gp, X38, Rd. -/
import Derived.Test.YtbncfhmfohpfbaaGDeltaPacks0
import Derived.Test.YtbncfhmfohpfbaaGDeltaPacks1
import Derived.Test.YtbncfhmfohpfbaaGDeltaPacks3
import Derived.Test.YtbncfhmfohpfbaaGDeltaPacks2
import Derived.Deep.RegionHeld3
import Derived.Deep.Slices
import Derived.Lib.SmallJoins
import Derived.SizedLaws
section
namespace Go.Proofs.Ytbncfhmfohpfbaa.D13
set_option linter.unusedVariables false
set_option linter.unusedSimpArgs false
open Go.RowKit Go.Proofs.Ytbncfhmfohpfbaa.X Go.Proofs.YtbncfhmfohpfbaaW.PrintWords Go.Proofs.YtbncfhmfohpfbaaW.PrintLast Go.Proofs.YtbncfhmfohpfbaaW.PrintMore Go.Proofs.Ytbncfhmfohpfbaa.Bx Go.Proofs.Ytbncfhmfohpfbaa.Nx Go.Proofs.Ytbncfhmfohpfbaa.Px
def inI (x : Int) : Prop := -9223372036854775808 ≤ x ∧ x ≤ 9223372036854775807
theorem wrap_in (x : Int) : inI (wrap64 x) := by unfold inI wrap64; omega
theorem bitLenAux_lt : ∀ (f x : Nat), x < 2 ^ f → x < 2 ^ Lib.bitLenAux f x
  | 0, x, h => by simpa [Lib.bitLenAux] using h
  | f + 1, x, h => by
    unfold Lib.bitLenAux
    split
    · simp; omega
    · have := bitLenAux_lt f (x / 2) (by rw [Nat.pow_succ] at h; omega)
      rw [Nat.add_comm, Nat.pow_succ]
      omega
theorem bitLenAux_top : ∀ (f x : Nat), Lib.bitLenAux f x ≤ f
  | 0, x => by simp [Lib.bitLenAux]
  | f + 1, x => by
    unfold Lib.bitLenAux
    split
    · omega
    · have := bitLenAux_top f (x / 2); omega
theorem W64_range (x : Int) : 0 ≤ W64 x ∧ W64 x ≤ 64 := by
  unfold W64
  have := bitLenAux_top 64 (IntKind.u64.wrap x).toNat
  unfold Lib.bitLen
  omega
theorem W64_lt (x : Int) : (x % 18446744073709551616).toNat < 2 ^ (W64 x).toNat := by
  unfold W64
  rw [u64w]
  exact bitLenAux_lt 64 _ (by omega)
theorem topW_acc (least : Int) : ∀ (xs : List Int) (m : Int), m ≤ xs.foldl (fun m x => max m (W64 (difW least x))) m ∧ (∀ x ∈ xs, W64 (difW least x) ≤ xs.foldl (fun m x => max m (W64 (difW least x))) m) ∧ (0 ≤ m → m ≤ 64 → xs.foldl (fun m x => max m (W64 (difW least x))) m ≤ 64)
  | [], m => ⟨by simp, by simp, fun _ h => by simpa using h⟩
  | x :: xs, m => by
    have ih := topW_acc least xs (max m (W64 (difW least x)))
    have hr := W64_range (difW least x)
    rw [List.foldl_cons]
    refine ⟨by omega, fun y hy => ?_, fun h0 h1 => ih.2.2 (by omega) (by omega)⟩
    rcases List.mem_cons.1 hy with rfl | hy
    · omega
    · exact ih.2.1 y hy
theorem topW_range (least : Int) (xs : List Int) : 0 ≤ topW least xs ∧ topW least xs ≤ 64 := ⟨(topW_acc least xs 0).1, (topW_acc least xs 0).2.2 (by omega) (by omega)⟩
theorem row_fits (least : Int) (xs : List Int) : ∀ x ∈ rowW least xs, fitsW (topW least xs).toNat x := by
  intro x hx
  have hr := topW_range least xs
  unfold rowW at hx
  rcases List.mem_append.1 hx with h | h
  · obtain ⟨y, hy, rfl⟩ := List.mem_map.1 h
    have h1 := (topW_acc least xs 0).2.1 y hy
    have h2 := W64_lt (difW least y)
    have h3 := W64_range (difW least y)
    refine ⟨Nat.lt_of_lt_of_le h2 (Nat.pow_le_pow_right (by decide) ?_), wrap_in _⟩
    have h4 : W64 (difW least y) ≤ topW least xs := h1
    omega
  · obtain ⟨_, rfl⟩ := List.mem_replicate.1 h
    exact ⟨by simpa using Nat.two_pow_pos _, by decide, by decide⟩
def pakB (least : Int) (d : List Int) (i : Nat) : List Int := packB (allBits (topW least (cutW d i)).toNat (rowW least (cutW d i)))
def wsR (least : Int) (d : List Int) : Nat → Nat → List Int
  | 0, _ => []
  | m + 1, i => topW least (cutW d i) :: wsR least d m (i + 1)
def psR (least : Int) (d : List Int) : Nat → Nat → List Int
  | 0, _ => []
  | m + 1, i => pakB least d i ++ psR least d m (i + 1)
theorem wsR_length (least : Int) (d : List Int) : ∀ m i, (wsR least d m i).length = m
  | 0, _ => rfl
  | m + 1, i => by rw [wsR, List.length_cons, wsR_length least d m]
theorem cutW_length (d : List Int) (i : Nat) : (cutW d i).length ≤ 32 := by unfold cutW; rw [List.length_take]; omega
theorem pakB_length (least : Int) (d : List Int) (i : Nat) : (pakB least d i).length = 4 * (topW least (cutW d i)).toNat := by
  unfold pakB
  rw [packB_length, allBits_length, rowW_length least _ (cutW_length d i)]
  omega
theorem psR_length (least : Int) (d : List Int) : ∀ m i, (psR least d m i).length ≤ 256 * m
  | 0, _ => by simp [psR]
  | m + 1, i => by
    have := psR_length least d m (i + 1)
    have := topW_range least (cutW d i)
    rw [psR, List.length_append, pakB_length]
    omega
theorem laidP_eq {k : Nat} (hk : 3000 ≤ k) (least : Int) (d : List Int) : ∀ (m n i : Nat) (ws ps : List Int), (d.length + 31) / 32 = i + m → m < n → ps.length + 256 * m ≤ 100000 → laidP k least d n i ws ps = some (ws ++ wsR least d m i, ps ++ psR least d m i)
  | 0, n, i, ws, ps, h, hn, hp => by
    obtain ⟨n, rfl⟩ : ∃ j, n = j + 1 := ⟨n - 1, by omega⟩
    rw [laidP, if_neg (by omega)]
    simp [wsR, psR]
  | m + 1, n, i, ws, ps, h, hn, hp => by
    obtain ⟨n, rfl⟩ : ∃ j, n = j + 1 := ⟨n - 1, by omega⟩
    have hr := topW_range least (cutW d i)
    have hl := rowW_length least (cutW d i) (cutW_length d i)
    have hpk := pack (k := k) (W := (topW least (cutW d i)).toNat) (ys := rowW least (cutW d i)) (by omega) (by omega) (by
      rw [hl]
      have : 32 * ((topW least (cutW d i)).toNat + 2) ≤ 32 * 66 := Nat.mul_le_mul_left _ (by omega)
      omega)
    rw [show (((topW least (cutW d i)).toNat : Nat) : Int) = topW least (cutW d i) by omega] at hpk
    have hpl := pakB_length least d i
    unfold pakB at hpl
    rw [laidP, if_pos (by omega), hpk, Option.bind_some, if_pos (by rw [List.length_append, hpl]; omega), laidP_eq hk least d m n (i + 1) _ _ (by omega) (by omega) (by rw [List.length_append, hpl]; omega)]
    rw [wsR, psR, show topW least (cutW d i) % 256 = topW least (cutW d i) by omega]
    simp [pakB]
def npW (d : List Int) : Nat := (d.length + 31) / 32
def minD : List Int → Int
  | [] => 0
  | x :: r => r.foldl min x
def blkB (d : List Int) : List Int := vb (zz (minD d)).toNat ++ (wsR (minD d) d (npW d) 0 ++ List.replicate (4 - npW d) 0) ++ psR (minD d) d (npW d) 0
theorem foldl_min_in : ∀ (r : List Int) (x : Int), inI x → (∀ y ∈ r, inI y) → inI (r.foldl min x)
  | [], x, h, _ => h
  | y :: r, x, h, hr => by
    rw [List.foldl_cons]
    refine foldl_min_in r _ ?_ (fun z hz => hr z (by simp [hz]))
    have := hr y (by simp)
    unfold inI at *
    omega
theorem minD_in {d : List Int} (h : ∀ x ∈ d, inI x) : inI (minD d) := by
  cases d with
  | nil => exact ⟨by decide, by decide⟩
  | cons x r => exact foldl_min_in r x (h x (by simp)) (fun y hy => h y (by simp [hy]))
theorem blkB_length {d : List Int} (h : ∀ x ∈ d, inI x) (hn : d.length ≤ 128) : (blkB d).length ≤ 1040 := by
  have h1 := minD_in h
  have hz := zz_range h1.1 h1.2
  have := vb_length64 (n := (zz (minD d)).toNat) (by omega)
  have := psR_length (minD d) d (npW d) 0
  unfold blkB
  rw [List.length_append, List.length_append, List.length_append, wsR_length, List.length_replicate]
  have : npW d ≤ 4 := by unfold npW; omega
  omega
theorem laid_eq {k : Nat} (hk : 3000 ≤ k) {out d : List Int} (h : ∀ x ∈ d, inI x) (h0 : 0 < d.length) (hn : d.length ≤ 128) (ho : out.length ≤ 99999990) : laidF k out d = some (out ++ blkB d) := by
  have hm : slices_Min_int64_int64.f d = some (minD d) := by
    cases d with
    | nil => simp at h0
    | cons x r => rfl
  have h1 := minD_in h
  have hz := zz_range h1.1 h1.2
  have hv := vb_length64 (n := (zz (minD d)).toNat) (by omega)
  have h4 : npW d ≤ 4 := by unfold npW; omega
  unfold laidF
  rw [hm, Option.bind_some, signed (by omega) (by omega) h1.1 h1.2, Option.bind_some, if_pos (by rw [List.length_append]; omega), laidP_eq hk (minD d) d (npW d) 5 0 [] [] (by unfold npW; omega) (by omega) (by simp; omega), Option.bind_some]
  simp only [List.nil_append, wsR_length, blkB, List.append_assoc]
theorem widS_back (n fr : Int) (least : Int) (d : List Int) : ∀ (m z i : Nat) (tl : List Int), (∀ j, j < m → fr + 32 * ((i + j : Nat) : Int) < n) → widS n fr (m + z) i (wsR least d m i ++ List.replicate z 0 ++ tl) = .ok (wsR least d m i ++ List.replicate z 0, tl)
  | 0, 0, i, tl, h => rfl
  | 0, z + 1, i, tl, h => by
    have ih := widS_back n fr least d 0 z (i + 1) tl (fun j hj => absurd hj (by omega))
    rw [show 0 + (z + 1) = (0 + z) + 1 by omega, widS]
    simp only [wsR, List.nil_append, List.replicate_succ, List.cons_append] at ih ⊢
    simp only [byteS, andS_ok]
    rw [if_pos ⟨by omega, .inl (by trivial)⟩, ih, andS_ok]
  | m + 1, z, i, tl, h => by
    have hr := topW_range least (cutW d i)
    have ih := widS_back n fr least d m z (i + 1) tl (fun j hj => by have := h (j + 1) (by omega); rwa [show i + 1 + j = i + (j + 1) by omega])
    rw [show m + 1 + z = (m + z) + 1 by omega, widS]
    simp only [wsR, List.cons_append]
    simp only [byteS, andS_ok]
    have h0 := h 0 (by omega)
    rw [if_pos ⟨hr.2, .inr h0⟩, ih, andS_ok]
def appD (l ds : List Int) : List Int := ds.foldl (fun l d => l ++ [wrap64 (rd l ((l.length : Int) - 1) + d)]) l
theorem appD_append (l a b : List Int) : appD l (a ++ b) = appD (appD l a) b := by unfold appD; rw [List.foldl_append]
theorem appD_length : ∀ (ds l : List Int), (appD l ds).length = l.length + ds.length
  | [], l => by simp [appD]
  | d :: ds, l => by
    have := appD_length ds (l ++ [wrap64 (rd l ((l.length : Int) - 1) + d)])
    unfold appD at *
    rw [List.foldl_cons, this]
    simp; omega
theorem addS_row (n least : Int) : ∀ (cut : List Int) (m : Nat) (l : List Int), (∀ x ∈ cut, inI x) → (l.length : Int) + cut.length ≤ n → (m = 0 ∨ (l.length : Int) + cut.length = n) → addS n least (cut.map (difW least) ++ List.replicate m 0) l = appD l cut
  | [], 0, l, _, _, _ => rfl
  | [], m + 1, l, _, h, hm => by
    have : (l.length : Int) = n := by rcases hm with h | h; omega; simpa using h
    simp only [List.map_nil, List.nil_append, List.replicate_succ, addS, if_pos this]; rfl
  | d :: cut, m, l, hx, h, hm => by
    have hd := hx d (by simp)
    rw [List.length_cons] at h hm
    rw [List.map_cons, List.cons_append, addS, if_neg (by omega)]
    have e : wrap64 (least + difW least d) = d := by
      have := hd.1; have := hd.2
      unfold difW wrap64; omega
    rw [e, addS_row n least cut m _ (fun x hx' => hx x (by simp [hx'])) (by simp; omega) (by simp; omega)]
    rfl
theorem cutW_drop (d : List Int) (i : Nat) : d.drop (32 * i) = cutW d i ++ d.drop (32 * (i + 1)) := by
  unfold cutW
  rw [show 32 * (i + 1) = 32 * i + 32 by omega, ← List.drop_drop, List.take_append_drop]
theorem cutW_len (d : List Int) (i : Nat) : (cutW d i).length = min 32 (d.length - 32 * i) := by unfold cutW; rw [List.length_take, List.length_drop]
theorem partsS_back (n fr least : Int) (d : List Int) (hx : ∀ x ∈ d, inI x) (hn : d.length ≤ 128) : ∀ (m i : Nat) (l tl : List Int), npW d = i + m → (l.length : Int) + (d.length - 32 * i : Nat) ≤ n → fr + d.length ≤ n → (d.length = 128 ∨ fr + d.length = n) → (l.length : Int) + (d.length - 32 * i : Nat) = fr + d.length →
    partsS n fr least (wsR least d m i ++ List.replicate (4 - npW d) 0) i l (psR least d m i ++ tl) = .ok (appD l (d.drop (32 * i)), tl)
  | 0, i, l, tl, hm, h1, h2, h3, h4 => by
    have hd : d.drop (32 * i) = [] := List.drop_of_length_le (by unfold npW at hm; omega)
    rw [hd]
    simp only [wsR, psR, List.nil_append]
    by_cases c : 4 - npW d = 0
    · rw [c]; rfl
    · obtain ⟨z, hz⟩ : ∃ z, 4 - npW d = z + 1 := ⟨4 - npW d - 1, by omega⟩
      rw [hz, List.replicate_succ, partsS, if_pos (by unfold npW at hm hz; omega)]
      rfl
  | m + 1, i, l, tl, hm, h1, h2, h3, h4 => by
    have hr := topW_range least (cutW d i)
    have hcl := cutW_len d i
    have hcx : ∀ x ∈ cutW d i, inI x := fun x h => hx x (List.mem_of_mem_drop (List.mem_of_mem_take h))
    simp only [wsR, psR, List.cons_append, List.append_assoc]
    rw [partsS, if_neg (by unfold npW at hm; omega)]
    have hb := packed_back (W := (topW least (cutW d i)).toNat) (xs := rowW least (cutW d i)) (by omega) (rowW_length least _ (cutW_length d i)) (row_fits least _) (psR least d m (i + 1) ++ tl)
    unfold pakB
    rw [hb, andS_ok]
    have hrow : addS n least (rowW least (cutW d i)) l = appD l (cutW d i) := by
      unfold rowW
      refine addS_row n least _ _ l hcx (by omega) ?_
      unfold npW at hm
      omega
    have hal := appD_length (cutW d i) l
    rw [hrow, partsS_back n fr least d hx hn m (i + 1) (appD l (cutW d i)) tl (by omega) (by unfold npW at hm; omega) h2 h3 (by unfold npW at hm; omega), ← appD_append, ← cutW_drop]
end Go.Proofs.Ytbncfhmfohpfbaa.D13
end

section
namespace Go.Proofs.Ytbncfhmfohpfbaa.D13
set_option linter.unusedVariables false
set_option linter.unusedSimpArgs false
open Go.RowKit Go.Proofs.Ytbncfhmfohpfbaa.X Go.Proofs.YtbncfhmfohpfbaaW.PrintWords Go.Proofs.YtbncfhmfohpfbaaW.PrintLast Go.Proofs.YtbncfhmfohpfbaaW.PrintMore Go.Proofs.Ytbncfhmfohpfbaa.Bx Go.Proofs.Ytbncfhmfohpfbaa.Nx Go.Proofs.Ytbncfhmfohpfbaa.Px
theorem rd_lt (L : List Int) (i : Nat) (h : i < L.length) : rd L (i : Int) = L[i] := by
  unfold rd
  rw [List.getD_eq_getElem?_getD, show ((i : Int)).toNat = i from rfl, List.getElem?_eq_getElem h]; rfl
theorem rd_take (L : List Int) (a i : Nat) (h : i < a) (ha : a ≤ L.length) : rd (L.take a) (i : Int) = rd L (i : Int) := by
  rw [rd_lt _ i (by rw [List.length_take]; omega), rd_lt L i (by omega), List.getElem_take]
theorem take_snoc (L : List Int) (a : Nat) (h : a < L.length) : L.take (a + 1) = L.take a ++ [rd L (a : Int)] := by
  rw [List.take_succ_eq_append_getElem h, rd_lt L a h]
theorem difs_back (L : List Int) (hx : ∀ x ∈ L, inI x) (a : Nat) (ha : 1 ≤ a) : ∀ m, a + m ≤ L.length → appD (L.take a) (difD L a m) = L.take (a + m)
  | 0, h => rfl
  | m + 1, h => by
    have ih := difs_back L hx a ha m (by omega)
    rw [difD_succ, appD_append, ih]
    show L.take (a + m) ++ [wrap64 (rd (L.take (a + m)) (((L.take (a + m)).length : Int) - 1) + wrap64 (rd L ((a : Int) + (m : Int)) - rd L ((a : Int) + (m : Int) - 1)))] = _
    have hl : (L.take (a + m)).length = a + m := by rw [List.length_take]; omega
    have e1 : (((L.take (a + m)).length : Int) - 1) = ((a + m - 1 : Nat) : Int) := by rw [hl]; omega
    have e2 : (a : Int) + (m : Int) = ((a + m : Nat) : Int) := by omega
    have e3 : (a : Int) + (m : Int) - 1 = ((a + m - 1 : Nat) : Int) := by omega
    rw [e3, e2, e1, rd_take L _ _ (by omega) (by omega), show a + (m + 1) = (a + m) + 1 by omega, take_snoc L (a + m) (by omega)]
    have hi := hx _ (List.getElem_mem (show a + m < L.length by omega))
    rw [← rd_lt L (a + m) (by omega)] at hi
    generalize rd L ((a + m : Nat) : Int) = u at *
    generalize rd L ((a + m - 1 : Nat) : Int) = v
    congr 2
    obtain ⟨h1, h2⟩ := hi
    unfold wrap64
    omega
theorem difD_in (L : List Int) (a : Int) (m : Nat) : ∀ x ∈ difD L a m, inI x := by
  intro x hx
  obtain ⟨j, _, rfl⟩ := List.mem_map.1 hx
  exact wrap_in _
theorem loop_back (L : List Int) (hx : ∀ x ∈ L, inI x) : ∀ (dd kk fr : Nat) (tl : List Int), 1 ≤ fr → (L.length : Int) - fr < 128 * dd → (L.length : Int) - fr < 128 * kk →
    loopS (L.length : Int) kk (fr : Int) (L.take fr) ((blksD L dd fr).flatMap blkB ++ tl) = .ok (L, tl)
  | 0, kk, fr, tl, h1, h2, h3 => by
    have hL : L.take fr = L := List.take_of_length_le (by omega)
    rw [hL]
    cases kk with
    | zero => rfl
    | succ kk => rw [loopS, if_neg (by omega)]; rfl
  | dd + 1, kk, fr, tl, h1, h2, h3 => by
    by_cases c : (fr : Int) < (L.length : Int)
    · obtain ⟨kk, rfl⟩ : ∃ j, kk = j + 1 := ⟨kk - 1, by omega⟩
      obtain ⟨m, hm⟩ : ∃ m, m = (min (L.length : Int) ((fr : Int) + 128) - (fr : Int)).toNat := ⟨_, rfl⟩
      obtain ⟨T, hT⟩ : ∃ T, T = (blksD L dd (fr + 128)).flatMap blkB ++ tl := ⟨_, rfl⟩
      rw [blksD, if_pos c, ← hm, List.flatMap_cons, loopS, if_pos c, List.append_assoc, ← hT]
      have hd := difD_in L fr m
      have hdl := difD_length L fr m
      have hmin := minD_in hd
      unfold blkB
      simp only [List.append_assoc]
      rw [signed_back hmin.1 hmin.2, andS_ok]
      have hw := widS_back (L.length : Int) fr (minD (difD L fr m)) (difD L fr m) (npW (difD L fr m)) (4 - npW (difD L fr m)) 0
      have hnp : npW (difD L fr m) ≤ 4 := by unfold npW; omega
      rw [show npW (difD L fr m) + (4 - npW (difD L fr m)) = 4 by omega] at hw
      have hw2 := hw (psR (minD (difD L fr m)) (difD L fr m) (npW (difD L fr m)) 0 ++ T) (fun j hj => by unfold npW at hj; omega)
      simp only [List.append_assoc] at hw2
      have hblk : ((fr : Int) + 128) = ((fr + 128 : Nat) : Int) := by omega
      rw [hw2, andS_ok]
      have hp := partsS_back (L.length : Int) fr (minD (difD L fr m)) (difD L fr m) hd (by omega) (npW (difD L fr m)) 0 (L.take fr) T (by omega) (by rw [List.length_take]; omega) (by omega) (by omega) (by rw [List.length_take]; omega)
      rw [hp, andS_ok, Nat.mul_zero, List.drop_zero, difs_back L hx fr h1 m (by omega)]
      have ht : L.take (fr + m) = L.take (fr + 128) := by
        by_cases e : m = 128
        · rw [e]
        · rw [List.take_of_length_le (by omega), List.take_of_length_le (by omega)]
      rw [ht, hT, hblk]
      exact loop_back L hx dd kk (fr + 128) tl (by omega) (by omega) (by omega)
    · have hL : L.take fr = L := List.take_of_length_le (by omega)
      rw [hL, blksD, if_neg c]
      cases kk with
      | zero => rfl
      | succ kk => rw [loopS, if_neg (by omega)]; rfl
def listB (L : List Int) : List Int := [128, 1, 4] ++ (vb L.length ++ if L.length = 0 then [0] else vb (zz (rd L 0)).toNat ++ (allD L).flatMap blkB)
theorem blksD_ok (L : List Int) : ∀ (dd : Nat) (at_ : Int), ∀ d ∈ blksD L dd at_, (∀ x ∈ d, inI x) ∧ 0 < d.length ∧ d.length ≤ 128
  | 0, _, d, h => by cases h
  | dd + 1, at_, d, h => by
    rw [blksD] at h
    split at h
    · rcases List.mem_cons.1 h with rfl | h
      · exact ⟨difD_in _ _ _, by rw [difD_length]; omega, by rw [difD_length]; omega⟩
      · exact blksD_ok L dd _ d h
    · cases h
theorem blksD_count (L : List Int) : ∀ (dd : Nat) (at_ : Int), (blksD L dd at_).length ≤ dd
  | 0, _ => Nat.le_refl _
  | dd + 1, at_ => by
    rw [blksD]
    split
    · rw [List.length_cons]; exact Nat.succ_le_succ (blksD_count L dd _)
    · simp
theorem laids_eq {k : Nat} (hk : 3000 ≤ k) : ∀ (ds : List (List Int)) (out : List Int), (∀ d ∈ ds, (∀ x ∈ d, inI x) ∧ 0 < d.length ∧ d.length ≤ 128) → out.length + 1040 * ds.length ≤ 99999990 → ds.foldlM (laidF k) out = some (out ++ ds.flatMap blkB)
  | [], out, _, _ => by simp
  | d :: ds, out, h, hl => by
    obtain ⟨h1, h2, h3⟩ := h d (by simp)
    have hb := blkB_length h1 h3
    rw [List.length_cons] at hl
    rw [List.foldlM_cons, laid_eq hk h1 h2 h3 (by omega)]
    show ds.foldlM (laidF k) (out ++ blkB d) = _
    rw [laids_eq hk ds _ (fun d hd => h d (by simp [hd])) (by rw [List.length_append]; omega)]
    simp
theorem rd0_in {L : List Int} (hx : ∀ x ∈ L, inI x) : inI (rd L 0) := by
  cases L with
  | nil => exact ⟨by decide, by decide⟩
  | cons x L => exact hx x (by simp)
theorem writeB_eq {k : Nat} (hk : 3000 ≤ k) {L : List Int} (hx : ∀ x ∈ L, inI x) (hl : L.length ≤ 65536) : writeB k L = some (listB L) := by
  have h0 := rd0_in hx
  have hz := zz_range h0.1 h0.2
  have hv := vb_length64 (n := (zz (rd L 0)).toNat) (by omega)
  have hv2 := vb_length64 (n := L.length) (by omega)
  have hn := number (k := k) (acc := [128, 1, 4]) (x := (L.length : Int)) (by omega) (by simp) (by omega) (by omega)
  rw [show ((L.length : Int)).toNat = L.length from rfl] at hn
  unfold writeB listB
  rw [hn, Option.bind_some]
  by_cases c : L.length = 0
  · rw [if_pos c, if_pos c]; simp
  · have hc := blksD_count L 600 1
    rw [if_neg c, if_neg c, signed (by omega) (by rw [List.length_append, List.length_cons, List.length_cons, List.length_cons, List.length_nil]; omega) h0.1 h0.2, Option.bind_some, laids_eq hk (allD L) _ (blksD_ok L 600 1) (by
      simp only [List.length_append, List.length_cons, List.length_nil]
      have : (allD L).length ≤ 600 := hc
      omega)]
    simp only [List.append_assoc]
theorem list_back {L : List Int} (hx : ∀ x ∈ L, inI x) (hl : L.length ≤ 65536) (tl : List Int) : listS (listB L ++ tl) = .ok (L, tl) := by
  have h0 := rd0_in hx
  have hz := zz_range h0.1 h0.2
  have e128 : vb 128 = [128, 1] := by rw [vb_big (by omega), vb_small (by omega)]; rfl
  have e4 : vb 4 = [4] := by rw [vb_small (by omega)]; rfl
  have e0 : vb 0 = [0] := by rw [vb_small (by omega)]; rfl
  have eh : ([128, 1, 4] : List Int) = vb 128 ++ vb 4 := by rw [e128, e4]; rfl
  unfold listB listS wantS
  rw [eh]
  simp only [List.append_assoc]
  rw [numS_back (by omega), andS_ok, if_pos (by rfl)]
  rw [numS_back (by omega), andS_ok, if_pos (by rfl)]
  unfold tailS
  rw [numS_back (by omega), andS_ok, if_pos (by omega)]
  by_cases c : L.length = 0
  · rw [if_pos c]
    have hL : L = [] := List.length_eq_zero_iff.1 c
    subst hL
    have es : mapS sgnV (numS 0 0 ([0] ++ tl)) = .ok ((0 : Int), tl) := by
      have := signed_back (y := 0) (by omega) (by omega) tl
      rw [show (zz 0).toNat = 0 by decide, e0] at this
      exact this
    rw [es, andS_ok, if_pos (.inr rfl), if_pos (by rfl)]
  · rw [if_neg c]
    simp only [List.append_assoc]
    rw [signed_back h0.1 h0.2, andS_ok, if_pos (.inl (by omega)), if_neg (by omega)]
    have hf : [rd L 0] = L.take 1 := by
      have := take_snoc L 0 (by omega)
      rw [this]; rfl
    rw [hf]
    have := loop_back L hx 600 513 1 tl (by omega) (by omega) (by omega)
    exact this
theorem wsR_range (least : Int) (d : List Int) : ∀ (m i : Nat), ∀ x ∈ wsR least d m i, 0 ≤ x ∧ x ≤ 255
  | 0, _, x, h => by cases h
  | m + 1, i, x, h => by
    have := topW_range least (cutW d i)
    rcases List.mem_cons.1 h with rfl | h
    · omega
    · exact wsR_range least d m _ x h
theorem psR_range (least : Int) (d : List Int) : ∀ (m i : Nat), ∀ x ∈ psR least d m i, 0 ≤ x ∧ x ≤ 255
  | 0, _, x, h => by cases h
  | m + 1, i, x, h => by
    rcases List.mem_append.1 h with h | h
    · exact packB_range (allBits_range _ _) x h
    · exact psR_range least d m _ x h
theorem blkB_range (d : List Int) : ∀ x ∈ blkB d, 0 ≤ x ∧ x ≤ 255 := by
  intro x h
  unfold blkB at h
  rcases List.mem_append.1 h with h | h
  · rcases List.mem_append.1 h with h | h
    · exact vb_range _ x h
    · rcases List.mem_append.1 h with h | h
      · exact wsR_range _ _ _ _ x h
      · obtain ⟨_, rfl⟩ := List.mem_replicate.1 h; omega
  · exact psR_range _ _ _ _ x h
theorem listB_range (L : List Int) : ∀ x ∈ listB L, 0 ≤ x ∧ x ≤ 255 := by
  intro x h
  unfold listB at h
  rcases List.mem_append.1 h with h | h
  · simp at h; omega
  rcases List.mem_append.1 h with h | h
  · exact vb_range _ x h
  split at h
  · simp at h; omega
  · rcases List.mem_append.1 h with h | h
    · exact vb_range _ x h
    · obtain ⟨d, _, hd⟩ := List.mem_flatMap.1 h
      exact blkB_range d x hd
theorem write_eq {k : Nat} (hk : 3000 ≤ k) {L : List Int} (hx : ∀ x ∈ L, inI x) (hl : L.length ≤ 65536) : delta_Write.f k L = some (listB L, 0) := by
  unfold delta_Write.f
  rw [if_neg (by omega), writeB_eq hk hx hl]; rfl
theorem addS_in (n least : Int) : ∀ (xs l : List Int), (∀ x ∈ l, inI x) → ∀ x ∈ addS n least xs l, inI x
  | [], l, h => h
  | y :: xs, l, h => by
    rw [addS]
    split
    · exact h
    · refine addS_in n least xs _ fun x hx => ?_
      rcases List.mem_append.1 hx with hx | hx
      · exact h x hx
      · rw [List.mem_singleton.1 hx]; exact wrap_in _
theorem andS_inv {α β : Type} {r : Except Int (α × List Int)} {k : α → List Int → Except Int (β × List Int)} {v : β} {b : List Int} (h : andS r k = .ok (v, b)) : ∃ v1 b1, r = .ok (v1, b1) ∧ k v1 b1 = .ok (v, b) := by
  cases r with
  | error x => rw [andS_err] at h; cases h
  | ok p => exact ⟨p.1, p.2, rfl, h⟩
theorem partsS_in (n fr least : Int) : ∀ (ws : List Int) (i : Nat) (l b l' r : List Int), (∀ x ∈ l, inI x) → partsS n fr least ws i l b = .ok (l', r) → ∀ x ∈ l', inI x
  | [], i, l, b, l', r, hl, h => by
    obtain ⟨rfl, _⟩ : l = l' ∧ b = r := by simpa [partsS] using h
    exact hl
  | w :: ws, i, l, b, l', r, hl, h => by
    rw [partsS] at h
    split at h
    · obtain ⟨rfl, _⟩ : l = l' ∧ b = r := by simpa using h
      exact hl
    · obtain ⟨v1, b1, _, h⟩ := andS_inv h
      exact partsS_in n fr least ws _ _ _ l' r (addS_in n least v1 l hl) h
theorem loopS_in (n : Int) : ∀ (k : Nat) (fr : Int) (l b l' r : List Int), (∀ x ∈ l, inI x) → loopS n k fr l b = .ok (l', r) → ∀ x ∈ l', inI x
  | 0, fr, l, b, l', r, hl, h => by
    obtain ⟨rfl, _⟩ : l = l' ∧ b = r := by simpa [loopS] using h
    exact hl
  | k + 1, fr, l, b, l', r, hl, h => by
    rw [loopS] at h
    split at h
    · obtain ⟨v1, b1, _, h⟩ := andS_inv h
      obtain ⟨v2, b2, _, h⟩ := andS_inv h
      obtain ⟨v3, b3, h3, h⟩ := andS_inv h
      exact loopS_in n k _ v3 b3 l' r (partsS_in n fr _ _ _ _ _ _ _ hl h3) h
    · obtain ⟨rfl, _⟩ : l = l' ∧ b = r := by simpa using h
      exact hl
theorem sgnV_in (n : Int) : inI (sgnV n) := by
  unfold sgnV
  show inI (IntKind.i64.wrap _)
  rw [IntKind.wrap_i64]
  unfold inI
  omega
theorem mapS_inv {α β : Type} {f : α → β} {r : Except Int (α × List Int)} {v : β} {b : List Int} (h : mapS f r = .ok (v, b)) : ∃ v1, v = f v1 := by
  cases r with
  | error x => simp [mapS] at h
  | ok p => simp [mapS] at h; exact ⟨p.1, h.1.symm⟩
theorem listS_in {b l r : List Int} (h : listS b = .ok (l, r)) : ∀ x ∈ l, inI x := by
  unfold listS wantS at h
  obtain ⟨v1, b1, _, h⟩ := andS_inv h
  split at h
  · obtain ⟨v2, b2, _, h⟩ := andS_inv h
    split at h
    · unfold tailS at h
      obtain ⟨v3, b3, _, h⟩ := andS_inv h
      split at h
      · obtain ⟨v4, b4, h4, h⟩ := andS_inv h
        split at h
        · split at h
          · obtain ⟨rfl, _⟩ : [] = l ∧ b4 = r := by simpa using h
            simp
          · obtain ⟨y, rfl⟩ := mapS_inv h4
            refine loopS_in _ _ _ _ _ _ _ (fun x hx => ?_) h
            rw [List.mem_singleton.1 hx]
            exact sgnV_in y
        · cases h
      · cases h
    · cases h
  · cases h
def beginR (b : List Int) : List Int × Int × Int :=
  match listS b with
  | .error x => ([], 0, x)
  | .ok (l, r) => if (strOfNums (listB l)).toList = (strOfNums (b.take (b.length - r.length))).toList then (l, ((b.length - r.length : Nat) : Int), 0) else ([], 0, 8)
theorem begin_eq {k : Nat} (hk : 3000 ≤ k) {b : List Int} (hu : ∀ x ∈ b, 0 ≤ x ∧ x ≤ 255) : delta_Begin.f k b = some (beginR b) := by
  unfold delta_Begin.f
  rw [if_pos (u8All_iff.2 hu)]
  unfold beginF beginR
  cases h : listS b with
  | error x => rfl
  | ok p =>
    obtain ⟨l, r⟩ := p
    simp only []
    rw [writeB_eq hk (listS_in h) (listS_len h), Option.bind_some]
    unfold bytes_Equal.f
    rw [Option.bind_some]
    by_cases c : (strOfNums (listB l)).toList = (strOfNums (b.take (b.length - r.length))).toList
    · rw [if_pos c, if_pos (by simp [c])]
    · rw [if_neg c, if_neg (by simp [c])]
theorem begin_back {L : List Int} (hx : ∀ x ∈ L, inI x) (hl : L.length ≤ 65536) (tl : List Int) : beginR (listB L ++ tl) = (L, ((listB L).length : Int), 0) := by
  unfold beginR
  rw [list_back hx hl]
  simp only []
  have e : (listB L ++ tl).length - tl.length = (listB L).length := by rw [List.length_append]; omega
  rw [e, List.take_left', if_pos rfl]
  rfl
end Go.Proofs.Ytbncfhmfohpfbaa.D13
end

section
namespace Go.Proofs.Ytbncfhmfohpfbaa.D13
set_option linter.unusedVariables false
set_option linter.unusedSimpArgs false
open Go.RowKit Go.Proofs.Ytbncfhmfohpfbaa.X Go.Proofs.YtbncfhmfohpfbaaW.PrintWords Go.Proofs.YtbncfhmfohpfbaaW.PrintLast Go.Proofs.YtbncfhmfohpfbaaW.PrintMore Go.Proofs.Ytbncfhmfohpfbaa.Bx Go.Proofs.Ytbncfhmfohpfbaa.Nx Go.Proofs.Ytbncfhmfohpfbaa.Px
theorem same_l (l : List Int) (hl : l.length ≤ 1000000000) : ∀ (d k i : Nat), i + d = l.length → d < k → marquetrylaw13_same.l0 k l l (i : Int) = some true
  | 0, k, i, h, hk => by
    obtain ⟨k, rfl⟩ : ∃ j, k = j + 1 := ⟨k - 1, by omega⟩
    rw [marquetrylaw13_same.l0, if_neg (by omega)]
  | d + 1, k, i, h, hk => by
    obtain ⟨k, rfl⟩ : ∃ j, k = j + 1 := ⟨k - 1, by omega⟩
    rw [marquetrylaw13_same.l0, if_pos (by omega), if_pos (by omega), if_pos (by omega), if_pos rfl, w64 (by omega) (by omega)]
    exact same_l l hl d k (i + 1) (by omega) (by omega)
theorem same {k : Nat} {l : List Int} (hl : l.length ≤ 1000000000) (hk : l.length < k) : marquetrylaw13_same.f k l l = some true := by
  unfold marquetrylaw13_same.f
  rw [if_pos rfl]
  exact same_l l hl l.length k 0 (by omega) hk
def readR (b : List Int) (count : Int) : List Int × Int :=
  if count < 0 ∨ 65536 < count then ([], 2) else
    if (beginR b).2.2 = 0 then (if ((beginR b).1.length : Int) = count then (if (beginR b).2.1 < (b.length : Int) then ([], 7) else ((beginR b).1, 0)) else ([], 8)) else ([], (beginR b).2.2)
theorem read_eq {k : Nat} (hk : 3001 ≤ k) {b : List Int} (hu : ∀ x ∈ b, 0 ≤ x ∧ x ≤ 255) (count : Int) : delta_Read.f k b count = some (readR b count) := by
  obtain ⟨k, rfl⟩ : ∃ j, k = j + 1 := ⟨k - 1, by omega⟩
  unfold delta_Read.f readR
  by_cases c : count < 0
  · rw [if_pos c, if_pos (.inl c), delta_Read.j0, if_pos rfl]
  · rw [if_neg c]
    by_cases c2 : count > 65536
    · rw [if_pos (.inr c2), decide_eq_true c2, delta_Read.j0, if_pos rfl]
    · rw [if_neg (by omega), decide_eq_false c2, delta_Read.j0, if_neg (by decide), begin_eq (by omega) hu, Option.bind_some]
      split
      · split
        · split <;> rfl
        · rfl
      · rfl
theorem read_back {L : List Int} (hx : ∀ x ∈ L, inI x) (hl : L.length ≤ 65536) : readR (listB L) (L.length : Int) = (L, 0) := by
  have := begin_back hx hl []
  rw [List.append_nil] at this
  unfold readR
  rw [this, if_neg (by omega), if_pos rfl, if_pos rfl, if_neg (show ¬ ((listB L).length : Int) < ((listB L).length : Int) by omega)]
def vbF : Nat → Nat → List Int
  | 0, n => [(n : Int)]
  | f + 1, n => if n < 128 then [(n : Int)] else ((n % 128 + 128 : Nat) : Int) :: vbF f (n / 128)
theorem vb_F : ∀ (f n : Nat), n < 128 ^ (f + 1) → vb n = vbF f n
  | 0, n, h => vb_small (by simpa using h)
  | f + 1, n, h => by
    rw [vbF]
    split
    · rename_i c; exact vb_small c
    · rw [vb_big (by omega), vb_F f (n / 128) (by rw [Nat.pow_succ] at h; omega)]
def L1 : List Int := [7, 5, 3, 1, 2, 3, 4, 5]
def L2 : List Int := [-9223372036854775808, 9223372036854775807]
theorem L1_in : ∀ x ∈ L1, inI x := by intro x h; simp [L1] at h; unfold inI; omega
theorem L2_in : ∀ x ∈ L2, inI x := by intro x h; simp [L2] at h; unfold inI; omega
theorem L1_bytes : listB L1 = [128, 1, 4, 8, 14, 3, 2, 0, 0, 0, 192, 63, 0, 0, 0, 0, 0, 0] := by
  have e1 : allD L1 = [[-2, -2, -2, 1, 1, 1, 1]] := by kernel_rfl
  have e2 : blkB [-2, -2, -2, 1, 1, 1, 1] = vb 3 ++ [2, 0, 0, 0, 192, 63, 0, 0, 0, 0, 0, 0] := by kernel_rfl
  unfold listB
  rw [e1, List.flatMap_cons, e2, show vb L1.length = [8] from vb_small (by decide), show vb (zz (rd L1 0)).toNat = [14] from vb_small (by decide), show vb 3 = [3] from vb_small (by decide)]
  rfl
theorem L2_bytes : (listB L2).length = 19 := by
  have e1 : allD L2 = [[-1]] := by kernel_rfl
  have e2 : blkB [-1] = vb 1 ++ [0, 0, 0, 0] := by kernel_rfl
  have e3 : vb (zz (rd L2 0)).toNat = vbF 9 18446744073709551615 := vb_F 9 _ (by decide)
  unfold listB
  rw [e1, List.flatMap_cons, e2, e3, show vb L2.length = [2] from vb_small (by decide), show vb 1 = [1] from vb_small (by decide)]
  rfl
theorem works {k : Nat} (hk : 3001 ≤ k) : marquetrylaw13_works.f k = some true := by
  have h1 := write_eq (k := k) (by omega) L1_in (by decide)
  have h2 := write_eq (k := k) (by omega) L2_in (by decide)
  have hu := listB_range L1
  have h3 := begin_eq (k := k) (by omega) (b := listB L1 ++ [9]) (fun x hx => by
    rcases List.mem_append.1 hx with h | h
    · exact hu x h
    · simp at h; omega)
  rw [begin_back L1_in (by decide) [9]] at h3
  have h4 : delta_Read.f k (listB L1) 8 = some (L1, 0) := (read_eq (k := k) hk hu 8).trans (congrArg some (read_back L1_in (by decide)))
  have hs := same (k := k) (l := L1) (by decide) (by have : L1.length = 8 := rfl; omega)
  have hl2 := L2_bytes
  unfold marquetrylaw13_works.f
  rw [show ([7, 5, 3, 1, 2, 3, 4, 5] : List Int) = L1 from rfl, h1, Option.bind_some, Option.bind_some]
  rw [L1_bytes] at h3 h4 ⊢
  rw [if_pos (by decide), Option.bind_some, if_pos (by decide), List.nil_append, h3, Option.bind_some]
  rw [show ([-9223372036854775808, 9223372036854775807] : List Int) = L2 from rfl, h2, Option.bind_some]
  rw [h4, Option.bind_some, if_pos (by kernel_rfl)]
  unfold marquetrylaw13_num.f
  rw [Option.bind_some, Option.bind_some, Option.bind_some, if_pos (by kernel_rfl), hs, Option.bind_some, if_pos rfl, if_pos (by rfl), Option.bind_some, if_pos (by rfl), if_pos (by rw [hl2]; rfl)]
  rfl
end Go.Proofs.Ytbncfhmfohpfbaa.D13
end

section
namespace Go.Proofs.Ytbncfhmfohpfbaa.X
open Go.RowKit Go.Proofs.YtbncfhmfohpfbaaW.PrintWords Go.Proofs.YtbncfhmfohpfbaaW.PrintLast Go.Proofs.YtbncfhmfohpfbaaW.PrintMore
set_option linter.unusedVariables false
set_option linter.unusedSimpArgs false
theorem works_true (w : World) : Calls Try.prog 11 #[] w fun e w' => e = .returned (.bool true) ∧ Below w.heap.size w w' := marquetrylaw13_works.calls 4000 true w (D13.works (by decide))
def ErrS {α : Type} (res : Except Int (α × List Int)) : Prop := ∀ x, res = .error x → x = 6 ∨ x = 8
theorem ErrS.ok {α : Type} (v : α) (b : List Int) : ErrS (.ok (v, b)) := fun _ h => by cases h
theorem ErrS.e8 {α : Type} : ErrS (.error 8 : Except Int (α × List Int)) := fun _ h => by cases h; exact .inr rfl
theorem ErrS.and {α β : Type} {r : Except Int (α × List Int)} {k : α → List Int → Except Int (β × List Int)} (h : ErrS r) (hk : ∀ v b, ErrS (k v b)) : ErrS (andS r k) := by
  intro x hx
  cases r with
  | error y => rw [andS_err] at hx; cases hx; exact h _ rfl
  | ok p => exact hk p.1 p.2 x hx
theorem ErrS.map {α β : Type} {f : α → β} {r : Except Int (α × List Int)} (h : ErrS r) : ErrS (mapS f r) := by
  intro x hx
  cases r with
  | error y => simp [mapS] at hx; subst hx; exact h _ rfl
  | ok p => simp [mapS] at hx
end Go.Proofs.Ytbncfhmfohpfbaa.X
end

section
namespace Go.Proofs.Ytbncfhmfohpfbaa.X
open Go.RowKit Go.Proofs.YtbncfhmfohpfbaaW.PrintWords Go.Proofs.YtbncfhmfohpfbaaW.PrintLast Go.Proofs.YtbncfhmfohpfbaaW.PrintMore
set_option linter.unusedVariables false
set_option linter.unusedSimpArgs false
def LentI (w : World) (A : Option Addr) (c : Nat) (l : List Int) (W : World) : Prop := Kd.C (Kd.int .i64) W A (l ++ [77]).length (l ++ [77]) ∧ l.length + 1 ≤ c ∧ Kd.C (Kd.int .i64) W A l.length l
def LentB (w : World) (A : Option Addr) (c : Nat) (l : List Int) (W : World) : Prop := Kd.C (Kd.int .u8) W A (l ++ [77]).length (l ++ [77]) ∧ l.length + 1 ≤ c ∧ Kd.C (Kd.int .u8) W A l.length l
theorem LentI.keep {w : World} {A : Option Addr} {c : Nat} {l : List Int} {W W' : World} (h : LentI w A c l W) (hb : Below W.heap.size W W') : LentI w A c l W' := ⟨Kd.C_below h.1 hb, h.2.1, Kd.C_below h.2.2 hb⟩
theorem LentB.keep {w : World} {A : Option Addr} {c : Nat} {l : List Int} {W W' : World} (h : LentB w A c l W) (hb : Below W.heap.size W W') : LentB w A c l W' := ⟨Kd.C_below h.1 hb, h.2.1, Kd.C_below h.2.2 hb⟩
theorem slice_up {P : Program} {t e : TypeId} {i : TypeInfo} (ht : P.underlying t = some (.slice e)) (hi : P.info? e = some i) (hsz : i.size = 1) (A : Option Addr) (n c m : Nat) (hm : m ≤ c) (W : World) : (Instr.slice t (.slice A n c) none (some (.int .i64 (m : Int))) none).run P W = .ok (.slice A m c) W := by
  have hel : P.elem t = e := by simp [Program.elem, ht]
  have hu : P.underlying t = some (.slice (P.elem t)) := by rw [hel]; exact ht
  have ha : (A.map fun x => x.add 0) = A := by cases A <;> simp [Addr.add]
  rw [run_slice_h W t A n c hu .i64 (m : Int) (by omega) (by omega), hel]
  simp [sizeOf, typeInfo, hi, hsz, sliced, Result.andThen, ha]
theorem lentI_end {w w3 : World} {v3 : Value} {l : List Int} (ho3 : w3.ownsRow w.heap.size 2 1 v3 (l ++ [77]).length (nums .i64 (l ++ [77]))) (hl : l.length ≤ 1000000) : ∃ A c, v3 = .slice A (l.length + 1) c ∧ LentI w A c l w3 ∧ ∀ W : World, (Instr.slice 22 (.slice A (l.length + 1) c) none (some (.int .i64 (l.length : Int))) none).run Try.prog W = .ok (.slice A l.length c) W := by
  obtain ⟨A3, c3, rfl⟩ := own_formD ho3
  obtain ⟨k1, k2, k3⟩ := Kd.R_reads' (Kd.R_of_own (enc := Value.int .i64) (h1 := fun _ => rfl) (ok := fun _ => True) ho3 (fun _ _ => trivial))
  have hlen : (l ++ [77]).length = l.length + 1 := by simp
  obtain ⟨i0, hi0, _, hsz, _⟩ := info_parts info2
  obtain ⟨htake, hTd, hT1⟩ := print_take_of (P := Try.prog) (Value.int .i64) 0 22 2 .i64 Try.underlying22 hi0 hsz A3 c3 (l ++ [77]) l.length (by omega) (by omega) k2
  rw [Int.toNat_natCast, List.take_left] at htake hTd
  refine ⟨A3, c3, by rw [hlen], ⟨k3, by omega, Kd.C_of_reads (h1 := fun _ => rfl) (hTd _ (Kd.reads_of_C k3))⟩, fun W => ?_⟩
  have := htake W
  rwa [hlen] at this
set_option maxRecDepth 100000 in
set_option maxHeartbeats 4000000 in
theorem lentI (A0 : Option Addr) (c0 : Nat) (l : List Int) (w : World) (hC : Kd.C (Kd.int .i64) w A0 l.length l) (hc : l.length ≤ c0) (hl : l.length ≤ 100000) :
    Calls Try.prog 12 #[.slice A0 l.length c0] w fun e w' => ∃ A c, e = .returned (.slice A l.length c) ∧ LentI w A c l w' ∧ Below w.heap.size w w' := by
  have HC := Aside0.mk hC
  have HB := Aside0.mk (Below.refl w.heap.size w)
  clear hC
  go_enter Try.func12, Try.ntmps12
  go_wp2_with (first
    | ((with_reducible refine gate_dst (N := 3) rfl ?_); refine Kd.R_lit (Kd.int .i64) _ 2 ?hg (N := 3) ?hd (xs := ([] : List Int)) (inner := []) (ok := fun _ => True) (okp := fun _ => True) ?hr ?hp (fun _ hk => hk) trivial (Below.refl _ _) (Nat.le_refl _) (by simp) ?_; (case hd => rfl); (case hg => rfl); (case hr => first | (go_simp; done) | (go_simp; rfl)); (case hp => exact (Reps.none _ _)); intro v1 w1 ho1 hb1 hg_ hnew_; clear hg_ hnew_; have HO1 := Aside0.mk (Kd.own_of_R (enc := Value.int .i64) (h1 := fun _ => rfl) (Kd.R_lower ho1 (Nat.le_refl w.heap.size))); have HB1 := Aside0.mk hb1; have HC1 := Aside0.mk (Kd.C_below HC.out hb1); have HS1 := Aside0.mk hb1.size; clear ho1 hb1)
    | ((with_reducible refine gate_builtin (b := .append) (xs := #[.tmp 3, .tmp 4]) rfl ?_); at_builtin; refine print_append_row (w0 := w) w.heap.size rfl (.tmp 3) (.tmp 4) 22 2 .i64 8 rfl Try.underlying22 dl_info (by decide) _ [] l A0 l.length c0 rfl rfl HO1.out (Kd.reads_of_C HC1.out) HB1.out HS1.out (by simp; omega) ?_; intro v2 w2 ho2 hb2 hg2 hat2; rw [List.nil_append] at ho2; have HO2 := Aside0.mk ho2; have HB2 := Aside0.mk hb2; have HS2 := Aside0.mk hb2.size; clear ho2 hb2 hg2 hat2)
    | ((with_reducible refine gate_builtin (b := .append) (xs := #[.tmp 5, .tmp 6]) rfl ?_); at_builtin; refine print_append_num (w0 := w) w.heap.size rfl (.tmp 5) (.tmp 6) 22 2 .i64 8 rfl Try.underlying22 dl_info (by decide) v2 l 77 rfl rfl HO2.out HB2.out HS2.out (by omega) ?_; intro v3 w3 ho3 hb3 hg3 hat3; obtain ⟨A3, c3, rfl, hL3, htk3⟩ := lentI_end ho3 (by omega); have HL3 := Aside0.mk hL3; have HB3 := Aside0.mk hb3; clear ho3 hb3 hg3 hat3 hL3))
  clear HO2 HO1
  all_goals skip
  go_ret
  exact ⟨A3, c3, rfl, HL3.out, HB3.out⟩
set_option maxRecDepth 100000 in
set_option maxHeartbeats 4000000 in
theorem keptI (A : Option Addr) (c : Nat) (A0 : Option Addr) (c0 : Nat) (l : List Int) (w0 w : World) (hL : LentI w0 A c l w) (hC : Kd.C (Kd.int .i64) w A0 l.length l) (hc : l.length ≤ c0) (hl : l.length ≤ 100000) :
    Calls Try.prog 16 #[.slice A l.length c, .slice A0 l.length c0] w fun e w' => e = .returned (.bool true) ∧ Below w.heap.size w w' := by
  obtain ⟨h1, h2, h3⟩ := hL
  have HS := Aside0.mk (marquetrylaw13_same.calls 100001 A c l A0 c0 l true w h3 (by omega) hC hc (D13.same (by omega) (by omega)))
  have H1 := Aside0.mk h1
  obtain ⟨i0, hi0, _, hsz, _⟩ := info_parts info2
  have hsl := slice_up (P := Try.prog) Try.underlying22 hi0 hsz A l.length c (l.length + 1) h2
  have hw1 : IntKind.i64.wrap ((l.length : Int) + 1) = ((l.length + 1 : Nat) : Int) := by rw [IntWalk.i64_in _ (by omega)]; omega
  obtain ⟨m, hm⟩ : ∃ m, m = l.length + 1 := ⟨_, rfl⟩
  rw [← hm] at hsl hw1
  have p1 : (0 : Int) ≤ (l.length : Int) := by omega
  have p2 : (l.length : Int) < (m : Int) := by omega
  have p3 : ((l.length : Int)).toNat = l.length := rfl
  have HM := Aside0.mk hm
  clear hi0 hsz h1 h2 h3 hC hm
  go_enter Try.func16, Try.ntmps16
  go_wp2_with fail
  refine HS.out.mono ?_
  rintro e W1 ⟨rfl, ⟨nd, hnd⟩⟩
  obtain ⟨ad, rfl, hcell⟩ := c_at (show Kd.C (Kd.int .i64) W1 A (l ++ [77]).length (l ++ [77]) from (by rw [hnd]; exact Kd.C_drewN H1.out _)) (l.length : Int) (by omega) (by simp; omega)
  rw [D13.rd_snoc, p3] at hcell
  have HB := Aside0.mk (show Below w.heap.size w W1 from (by rw [hnd]; exact pw_below_drewN (Below.refl _ _) _))
  clear hnd
  go_wp2
  go_ret
  exact ⟨rfl, HB.out⟩
end Go.Proofs.Ytbncfhmfohpfbaa.X
end

section
namespace Go.Proofs.Ytbncfhmfohpfbaa.D13
set_option linter.unusedVariables false
set_option linter.unusedSimpArgs false
open Go.RowKit Go.Proofs.Ytbncfhmfohpfbaa.X Go.Proofs.YtbncfhmfohpfbaaW.PrintWords Go.Proofs.YtbncfhmfohpfbaaW.PrintLast Go.Proofs.YtbncfhmfohpfbaaW.PrintMore Go.Proofs.Ytbncfhmfohpfbaa.Bx Go.Proofs.Ytbncfhmfohpfbaa.Nx Go.Proofs.Ytbncfhmfohpfbaa.Px
theorem tmod_u64 {x : Int} (y : Int) (hx : 0 ≤ x) : x.tmod y = x % y := Int.tmod_eq_emod_of_nonneg hx
theorem ref_width_l : ∀ (f k : Nat) (x : Nat) (acc : Nat), x < 2 ^ f → f ≤ 63 → acc + f ≤ 1000 → f < k → marquetryref13_Width.l0 k (x : Int) (acc : Int) = some ((acc + Lib.bitLenAux f x : Nat) : Int)
  | 0, k, x, acc, h, hf, ha, hk => by
    obtain ⟨k, rfl⟩ : ∃ j, k = j + 1 := ⟨k - 1, by omega⟩
    rw [marquetryref13_Width.l0, if_neg (by simp at h; omega)]; simp [Lib.bitLenAux]
  | f + 1, k, x, acc, h, hf, ha, hk => by
    obtain ⟨k, rfl⟩ : ∃ j, k = j + 1 := ⟨k - 1, by omega⟩
    have hp : 2 ^ (f + 1) ≤ 2 ^ 63 := Nat.pow_le_pow_right (by decide) hf
    have hp2 : 2 ^ 63 = 9223372036854775808 := by decide
    rw [marquetryref13_Width.l0]
    unfold Lib.bitLenAux
    by_cases c : x = 0
    · rw [if_neg (by omega), if_pos c]; simp
    · rw [if_pos (by omega), if_neg c, Int.tdiv_eq_ediv_of_nonneg (by omega), show (x : Int) / 2 = ((x / 2 : Nat) : Int) by omega, w64 (by omega) (by omega), w64 (by omega) (by omega), show (acc : Int) + 1 = ((acc + 1 : Nat) : Int) by omega, ref_width_l f k (x / 2) (acc + 1) (by rw [Nat.pow_succ] at h; omega) (by omega) (by omega) (by omega)]
      congr 2
      omega
theorem ref_width {k : Nat} {x : Int} (hk : 100 ≤ k) (h : inI x) : marquetryref13_Width.f k x = some (W64 x) := by
  obtain ⟨h1, h2⟩ := h
  unfold marquetryref13_Width.f
  by_cases c : x < 0
  · rw [if_pos c]
    have hr := W64_range x
    have hlt := W64_lt x
    congr 1
    by_cases q : W64 x ≤ 63
    · exfalso
      have hp : 2 ^ (W64 x).toNat ≤ 2 ^ 63 := Nat.pow_le_pow_right (by decide) (by omega)
      have hp2 : 2 ^ 63 = 9223372036854775808 := by decide
      omega
    · omega
  · rw [if_neg c]
    obtain ⟨n, rfl⟩ := Int.eq_ofNat_of_zero_le (show 0 ≤ x by omega)
    have := ref_width_l 63 k n 0 (by omega) (by omega) (by omega) (by omega)
    rw [show ((0 : Nat) : Int) = 0 from rfl, Nat.zero_add] at this
    rw [this]
    unfold W64 Lib.bitLen
    rw [u64w, show ((n : Int) % 18446744073709551616).toNat = n by omega, Lib.bitLenAux_fuel 63 n (by omega) 64 (by omega)]
theorem ref_byte {B : List Int} (hB : ∀ b ∈ B, b = 0 ∨ b = 1) {L : Nat} (hL : B.length = L) :
    bits .or .u8 (byteAt B (L / 8)) (shl .u8 1 ((L % 8 : Nat) : Int)) = byteAt B (L / 8) + 1 * 2 ^ (L % 8) := by
  have hb1 := byteAt_range hB (L / 8)
  have hb2 := byteAt_last hB
  rw [hL] at hb2
  have hr8 : L % 8 = 0 ∨ L % 8 = 1 ∨ L % 8 = 2 ∨ L % 8 = 3 ∨ L % 8 = 4 ∨ L % 8 = 5 ∨ L % 8 = 6 ∨ L % 8 = 7 := by omega
  have hs : shl .u8 1 ((L % 8 : Nat) : Int) = 1 * 2 ^ (L % 8) := by
    unfold shl
    rw [show min (((L % 8 : Nat) : Int)).toNat IntKind.u8.bits = L % 8 from by show min _ 8 = _; omega, IntKind.wrap_u8]
    rcases hr8 with h | h | h | h | h | h | h | h <;> rw [h] <;> decide
  rw [hs]
  have hp : (0 : Int) < 2 ^ (L % 8) := Int.pow_pos (by decide)
  have hp2 : (2 : Int) ^ (L % 8) ≤ 128 := by rcases hr8 with h | h | h | h | h | h | h | h <;> rw [h] <;> decide
  exact or_low_high8 (L % 8) _ _ hb1.1 hb2 (by omega) (Int.mul_emod_left _ _) (by omega) (by omega)
set_option maxHeartbeats 1000000 in
theorem ref_pk_l1 : ∀ (d : Nat) (k : Nat) (W : Nat) (n c i : Nat) (x : Int) (B ys : List Int), (∀ b ∈ B, b = 0 ∨ b = 1) → c + d = W → W ≤ 64 → i < ys.length → rd ys (i : Int) = x → B.length = i * W + c → B.length + d ≤ 1000000000 → i ≤ 1000000 → (B.length + d + 7) / 8 ≤ n →
    marquetryref13_Pack.l1 (k + d + 1) (W : Int) ys ((List.range n).map (byteAt B)) (i : Int) (c : Int) = marquetryref13_Pack.l0 k (W : Int) ys ((List.range n).map (byteAt (B ++ bitsFrom x c d))) (wrap64 ((i : Int) + 1))
  | 0, k, W, n, c, i, x, B, ys, hB, hc, hW, hi, hx, hl, hl2, hi2, hn => by
    rw [show k + 0 + 1 = k + 1 by omega, marquetryref13_Pack.l1, if_neg (by omega)]; simp [bitsFrom]
  | d + 1, k, W, n, c, i, x, B, ys, hB, hc, hW, hi, hx, hl, hl2, hi2, hn => by
    have hm : (i : Int) * (W : Int) = ((i * W : Nat) : Int) := (Int.natCast_mul _ _).symm
    have hiW : i * W ≤ 1000000000 := by omega
    rw [show k + (d + 1) + 1 = (k + d + 1) + 1 by omega, marquetryref13_Pack.l1, if_pos (by omega), if_pos (by omega), if_pos (by omega), if_pos (by omega), hx]
    have hsh : shr .i64 x (c : Int) = x / 2 ^ c := by
      unfold shr
      rw [show min ((c : Int)).toNat IntKind.i64.bits = c from by show min _ 64 = _; omega]
    rw [hsh, and_one_i64, hm, w64n hiW, show ((i * W : Nat) : Int) + (c : Int) = ((B.length : Nat) : Int) by omega, w64n (by omega), Int.tdiv_eq_ediv_of_nonneg (by omega), show (B.length : Int) / 8 = ((B.length / 8 : Nat) : Int) by omega, w64n (by omega), tmod_u64 8 (by omega), show (B.length : Int) % 8 = ((B.length % 8 : Nat) : Int) by omega]
    have hb : x / 2 ^ c % 2 = 0 ∨ x / 2 ^ c % 2 = 1 := by omega
    have hB' : ∀ b ∈ B ++ [x / 2 ^ c % 2], b = 0 ∨ b = 1 := by
      intro b hb'
      rcases List.mem_append.1 hb' with h | h
      · exact hB b h
      · rw [List.mem_singleton.1 h]; exact hb
    have ih := ref_pk_l1 d k W n (c + 1) i x (B ++ [x / 2 ^ c % 2]) ys hB' (by omega) hW hi hx (by simp; omega) (by simp; omega) hi2 (by simp; omega)
    rw [List.append_assoc, show [x / 2 ^ c % 2] ++ bitsFrom x (c + 1) d = bitsFrom x c (d + 1) from rfl] at ih
    have e : wrap64 ((c : Int) + 1) = ((c + 1 : Nat) : Int) := w64s (by omega)
    have hlt : B.length / 8 < n := by clear ih hl hm hiW hb hx hi hB hB' e hsh; omega
    have hms0 := map_set B 1 n hlt
    obtain ⟨q, hq⟩ : ∃ q, q = B.length / 8 := ⟨_, rfl⟩
    obtain ⟨r, hr⟩ : ∃ r, r = B.length % 8 := ⟨_, rfl⟩
    have hby : bits .or .u8 (byteAt B q) (shl .u8 1 (r : Int)) = byteAt B q + 1 * 2 ^ r := by rw [hq, hr]; exact ref_byte hB rfl
    have hms : ((List.range n).map (byteAt B)).set q (byteAt B q + 1 * 2 ^ r) = (List.range n).map (byteAt (B ++ [1])) := by rw [hq, hr]; exact hms0
    rw [← hq, ← hr]
    rcases hb with h0 | h1
    · rw [if_neg (by rw [h0]; decide), e]
      rw [h0, map_same] at ih
      exact ih
    · rw [h1] at ih
      rw [if_pos h1, if_pos (Int.natCast_nonneg q), if_pos (show (q : Int) < (((List.range n).map (byteAt B)).length : Int) by rw [List.length_map, List.length_range]; exact Int.ofNat_lt.2 (by rw [hq]; exact hlt)), if_pos (Int.natCast_nonneg r), rd_map B n q (by rw [hq]; exact hlt), show ((q : Int)).toNat = q from rfl, hby, hms, e]
      exact ih
theorem ref_pk_l0 : ∀ (ys1 : List Int) (k : Nat) (W : Nat) (n : Nat) (ys ys0 : List Int), ys = ys0 ++ ys1 → W ≤ 64 → ys.length ≤ 1000000 → (ys.length * W + 7) / 8 ≤ n → ys1.length * (W + 2) + 1 ≤ k →
    marquetryref13_Pack.l0 k (W : Int) ys ((List.range n).map (byteAt (allBits W ys0))) (ys0.length : Int) = some ((List.range n).map (byteAt (allBits W ys)))
  | [], k, W, n, ys, ys0, he, hW, hl, hn, hk => by
    obtain ⟨k, rfl⟩ : ∃ j, k = j + 1 := ⟨k - 1, by omega⟩
    rw [List.append_nil] at he
    subst he
    rw [marquetryref13_Pack.l0, if_neg (by omega)]
  | x :: ys1, k, W, n, ys, ys0, he, hW, hl, hn, hk => by
    have hll : ys.length = ys0.length + (ys1.length + 1) := by rw [he]; simp
    have hmw : ys0.length * W + W ≤ ys.length * W := by
      have := Nat.mul_le_mul_right W (show ys0.length + 1 ≤ ys.length by omega)
      rw [Nat.add_mul] at this; omega
    have hmb : ys.length * W ≤ 1000000 * 64 := Nat.mul_le_mul hl hW
    have hkk : (x :: ys1).length * (W + 2) = ys1.length * (W + 2) + (W + 2) := by rw [List.length_cons, Nat.add_mul]; omega
    rw [hkk] at hk
    obtain ⟨k', rfl⟩ : ∃ j, k = (j + W + 1) + 1 := ⟨k - W - 2, by omega⟩
    have hrd : rd ys (ys0.length : Int) = x := by rw [he]; exact rd_snoc
    rw [marquetryref13_Pack.l0, if_pos (by omega)]
    have hq := ref_pk_l1 W k' W n 0 ys0.length x (allBits W ys0) ys (allBits_range W ys0) (by omega) hW (by omega) hrd (by rw [allBits_length]; rfl) (by rw [allBits_length]; omega) (by omega) (by rw [allBits_length]; omega)
    have z : ((0 : Nat) : Int) = 0 := rfl
    rw [z] at hq
    rw [hq, w64 (by omega) (by omega)]
    have e : allBits W ys0 ++ bitsFrom x 0 W = allBits W (ys0 ++ [x]) := by simp [allBits]
    have ih := ref_pk_l0 ys1 k' W n ys (ys0 ++ [x]) (by rw [he]; simp) hW hl hn (by omega)
    rw [List.length_append, List.length_singleton] at ih
    rw [e, show (ys0.length : Int) + 1 = ((ys0.length + 1 : Nat) : Int) by omega]
    exact ih
theorem ref_pack {k : Nat} {W : Nat} {ys : List Int} (hW : W ≤ 64) (hl : ys.length ≤ 1000000) (hk : ys.length * (W + 2) + 2 ≤ k) : marquetryref13_Pack.f k (W : Int) ys = some (packB (allBits W ys)) := by
  obtain ⟨k, rfl⟩ : ∃ j, k = j + 1 := ⟨k - 1, by omega⟩
  unfold marquetryref13_Pack.f
  have hmb : ys.length * W ≤ 1000000 * 64 := Nat.mul_le_mul hl hW
  have hm : ((ys.length * W : Nat) : Int) = (W : Int) * (ys.length : Int) := by rw [Int.natCast_mul, Int.mul_comm]
  rw [if_neg (by omega), show decide ((W : Int) > 64) = false from decide_eq_false (by omega), marquetryref13_Pack.j0, if_neg (by decide), ← hm, w64n (by omega : ys.length * W ≤ 1000000000), w64 (a := ((ys.length * W : Nat) : Int) + 7) (by omega) (by omega), Int.tdiv_eq_ediv_of_nonneg (by omega), w64 (by omega) (by omega), if_pos (by omega), if_pos (by omega)]
  have := ref_pk_l0 ys k W ((((ys.length * W : Nat) : Int) + 7) / 8).toNat ys [] rfl hW hl (by omega) (by omega)
  have e : allBits W [] = [] := rfl
  rw [e, packB_zero] at this
  have z : (([] : List Int).length : Int) = 0 := rfl
  rw [z] at this
  refine Eq.trans (show _ = _ from this) ?_
  congr 1
  unfold packB
  rw [allBits_length]
  congr 2
theorem ref_pack_bad {k : Nat} {w : Int} {ys : List Int} (hk : 1 ≤ k) (h : w < 0 ∨ 64 < w) : marquetryref13_Pack.f k w ys = some [] := by
  obtain ⟨k, rfl⟩ : ∃ j, k = j + 1 := ⟨k - 1, by omega⟩
  unfold marquetryref13_Pack.f
  by_cases c : w < 0
  · rw [if_pos c, marquetryref13_Pack.j0, if_pos rfl]
  · rw [if_neg c, show decide (w > 64) = true from decide_eq_true (by omega), marquetryref13_Pack.j0, if_pos rfl]
def packP (w : Int) (l : List Int) : List Int := packB (allBits w.toNat l)
theorem packP_prog {w : Int} {l : List Int} (h0 : 0 ≤ w) (h1 : w ≤ 64) (hl : l.length ≤ 1000) : delta_Pack.f 100000 w l = some (packP w l) := by
  have hm : l.length * (w.toNat + 2) ≤ 1000 * 66 := Nat.mul_le_mul hl (by omega)
  have := pack (k := 100000) (W := w.toNat) (ys := l) (by omega) (by omega) (by omega)
  rwa [show ((w.toNat : Nat) : Int) = w by omega] at this
theorem packP_ref {w : Int} {l : List Int} (h0 : 0 ≤ w) (h1 : w ≤ 64) (hl : l.length ≤ 1000) : marquetryref13_Pack.f 100000 w l = some (packP w l) := by
  have hm : l.length * (w.toNat + 2) ≤ 1000 * 66 := Nat.mul_le_mul hl (by omega)
  have := ref_pack (k := 100000) (W := w.toNat) (ys := l) (by omega) (by omega) (by omega)
  rwa [show ((w.toNat : Nat) : Int) = w by omega] at this
end Go.Proofs.Ytbncfhmfohpfbaa.D13
end

section
namespace Go.Proofs.Ytbncfhmfohpfbaa.D13
set_option linter.unusedVariables false
set_option linter.unusedSimpArgs false
open Go.RowKit Go.Proofs.Ytbncfhmfohpfbaa.X Go.Proofs.YtbncfhmfohpfbaaW.PrintWords Go.Proofs.YtbncfhmfohpfbaaW.PrintLast Go.Proofs.YtbncfhmfohpfbaaW.PrintMore Go.Proofs.Ytbncfhmfohpfbaa.Bx Go.Proofs.Ytbncfhmfohpfbaa.Nx Go.Proofs.Ytbncfhmfohpfbaa.Px
end Go.Proofs.Ytbncfhmfohpfbaa.D13
end

section
namespace Go.Proofs.Ytbncfhmfohpfbaa.X
open Go.RowKit Go.Proofs.YtbncfhmfohpfbaaW.PrintWords Go.Proofs.YtbncfhmfohpfbaaW.PrintLast Go.Proofs.YtbncfhmfohpfbaaW.PrintMore
set_option linter.unusedVariables false
set_option linter.unusedSimpArgs false
def i64All (l : List Int) : Bool := l.all fun x => decide (-9223372036854775808 ≤ x) && decide (x ≤ 9223372036854775807)
theorem i64All_iff {l : List Int} : i64All l = true ↔ ∀ x ∈ l, D13.inI x := by simp [i64All, D13.inI]
end Go.Proofs.Ytbncfhmfohpfbaa.X
end

section
namespace Go.Proofs.Ytbncfhmfohpfbaa.X
open Go.RowKit Go.Proofs.YtbncfhmfohpfbaaW.PrintWords Go.Proofs.YtbncfhmfohpfbaaW.PrintLast Go.Proofs.YtbncfhmfohpfbaaW.PrintMore
set_option linter.unusedVariables false
set_option linter.unusedSimpArgs false
theorem gp_long (A : Option Addr) (c : Nat) (width : Int) (l : List Int) (w : World) (hc : l.length ≤ c) (hl : 1000 < l.length) :
    Calls Try.prog 6 #[.int .i64 width, .slice A l.length c] w fun e w' => e = .returned (.bool true) ∧ Below w.heap.size w w' := by
  have h1b : decide ((l.length : Int) > 1000) = true := decide_eq_true (by omega)
  clear hl
  go_enter Try.func6, Try.ntmps6
  go_wp2_with fail
  refine (works_true _).mono ?_
  rintro e W3 ⟨rfl, hb3⟩
  have HB3 := Aside0.mk hb3
  clear hb3
  go_wp2
  go_ret
  exact ⟨rfl, HB3.out⟩
def packR (w : Int) (l : List Int) : List Int := if w < 0 ∨ 64 < w then [] else D13.packP w l
theorem packR_prog (w : Int) (l : List Int) (hl : l.length ≤ 1000) : delta_Pack.f 100000 w l = some (packR w l) := by
  unfold packR
  by_cases h : w < 0 ∨ 64 < w
  · rw [if_pos h, D13.pack_bad (by decide) h]
  · rw [if_neg h]; exact D13.packP_prog (by omega) (by omega) hl
theorem packR_ref (w : Int) (l : List Int) (hl : l.length ≤ 1000) : marquetryref13_Pack.f 100000 w l = some (packR w l) := by
  unfold packR
  by_cases h : w < 0 ∨ 64 < w
  · rw [if_pos h, D13.ref_pack_bad (by decide) h]
  · rw [if_neg h]; exact D13.packP_ref (by omega) (by omega) hl
set_option maxRecDepth 100000 in
set_option maxHeartbeats 4000000 in
theorem gp_main (A : Option Addr) (c : Nat) (width : Int) (l : List Int) (w : World) (hC : Kd.C (Kd.int .i64) w A l.length l) (hc : l.length ≤ c) (hl : l.length ≤ 1000) (hx : ∀ x ∈ l, D13.inI x) :
    Calls Try.prog 6 #[.int .i64 width, .slice A l.length c] w fun e w' => e = .returned (.bool true) ∧ Below w.heap.size w w' := by
  have h1b : decide ((l.length : Int) > 1000) = false := decide_eq_false (by omega)
  have HL := Aside0.mk (lentI A c l w hC hc (by omega))
  have HC := Aside0.mk hC
  have HX := Aside0.mk hx
  have HP := Aside0.mk (fun (W : World) (Al : Option Addr) (cl : Nat) (h : Kd.C (Kd.int .i64) W Al l.length l) (hcl : l.length ≤ cl) => delta_Pack.calls 100000 width Al cl l (packR width l) W h hcl (packR_prog width l hl))
  have HR := Aside0.mk (fun (W : World) (Al : Option Addr) (cl : Nat) (h : Kd.C (Kd.int .i64) W Al l.length l) (hcl : l.length ≤ cl) => marquetryref13_Pack.calls 100000 width Al cl l (packR width l) W h hcl (packR_ref width l hl))
  have WT := Aside0.mk works_true
  obtain ⟨lb, hlb⟩ : ∃ lb, lb = packR width l := ⟨_, rfl⟩
  rw [← hlb] at HP HR
  clear hC hx hlb
  go_enter Try.func6, Try.ntmps6
  go_wp2_with fail
  refine HL.out.mono ?_
  rintro e W1 ⟨A1, c1, rfl, hL1, hb1⟩
  have HL1 := Aside0.mk hL1
  have HB1 := Aside0.mk hb1
  clear hL1 hb1
  go_wp2_with fail
  refine (HP.out W1 A1 c1 HL1.out.2.2 (by have := HL1.out.2.1; omega)).mono ?_
  rintro e W2 ⟨v2, rfl, hR2, hb2⟩
  obtain ⟨A2, c2, rfl, hc2, hC2⟩ := Kd.R_reads hR2
  have HB2 := Aside0.mk (below_then HB1.out HB1.out.size hb2)
  have HC2 := Aside0.mk hC2
  have HL2 := Aside0.mk (HL1.out.keep hb2)
  clear hR2 hb2 hC2 hc2
  go_wp2_with fail
  go_loopw [7] (fun v7 wr => ∃ i : Nat, v7 = .int .i64 i ∧ i ≤ l.length ∧ Aside0 (Below W2.heap.size W2 wr)) (fun v7 _ => l.length - (intOf v7).toNat)
  case atStart => exact ⟨0, rfl, Nat.zero_le _, ⟨Below.refl _ _⟩⟩
  case round =>
    obtain ⟨i, rfl, hi, HBr⟩ := hrel
    by_cases ci : i < l.length
    · have q1 : decide ((i : Int) < (l.length : Int)) = true := decide_eq_true (by omega)
      have q2 : decide (i < l.length) = true := decide_eq_true ci
      have HWr := Aside0.mk (HB2.out.trans (HBr.out.mono HB2.out.size))
      obtain ⟨ad, rfl, hcell0⟩ := c_at (Kd.C_below HC.out HWr.out) (i : Int) (by omega) (by omega)
      have hcl : ∀ w', Below wr.heap.size wr w' → w'.cell? (ad.add i) = some (.int .i64 (rd l (i : Int))) := fun w' h => by
        obtain ⟨a1, q1, z1⟩ := c_at (Kd.C_below HC.out (HWr.out.trans (h.mono HWr.out.size))) (i : Int) (by omega) (by omega)
        obtain rfl : ad = a1 := by simpa using q1
        exact z1
      have hin : D13.inI (rd l (i : Int)) := by rw [D13.rd_lt l i ci]; exact HX.out _ (List.getElem_mem ci)
      have hwa := fun W => delta_Width.calls (rd l (i : Int)) (W64 (rd l (i : Int))) W (W64_f 0 _)
      have hwb := fun W => marquetryref13_Width.calls 100 (rd l (i : Int)) (W64 (rd l (i : Int))) W (D13.ref_width (by decide) hin)
      obtain ⟨x, hxx⟩ : ∃ x, x = rd l (i : Int) := ⟨_, rfl⟩
      rw [← hxx] at hcl hwa hwb
      obtain ⟨y, hyy⟩ : ∃ y, y = W64 x := ⟨_, rfl⟩
      rw [← hyy] at hwa hwb
      have HWA := Aside0.mk hwa
      have HWB := Aside0.mk hwb
      have hwi : IntKind.i64.wrap ((i : Int) + 1) = (i : Int) + 1 := IntWalk.i64_in _ (by omega)
      have HCI := Aside0.mk ci
      have hBr : Below wr.heap.size wr wr := Below.refl _ _
      have p1 : (0 : Int) ≤ (i : Int) := by omega
      have p2 : (i : Int) < (l.length : Int) := by omega
      have p3 : ((i : Int)).toNat = i := rfl
      clear hcell0 hin hxx hyy hwa hwb hi
      go_wp2_with fail
      refine wp_region_held_drew (S := fun w' => Below wr.heap.size wr w') (by kernel_rfl) (below_drew1 hBr) (fun hHeld => ?_)
      refine wpAnyH_take (i := 0) (oi := { dst := some 23, op := Op.move (Operand.tmp 1), type := 22, pos := "law.go:86", after := #[], guard := none }) (v := .slice (some ad) l.length c) rfl (by kernel_rfl) (by kernel_rfl) (by kernel_rfl) (fun _ _ _ h => h) (Or.inl ⟨by rfl, ?_⟩) (by assumption) ?_
      · (intro w hSw; (try dsimp only at hSw); go_simp)
      try simp only [Act.put, List.setIfInBounds_toArray, List.set_cons_zero, List.set_cons_succ]
      refine wpAnyH_take (i := 1) (oi := { dst := some 24, op := Op.move (Operand.tmp 7), type := 3, pos := "law.go:86", after := #[], guard := none }) (v := .int .i64 (i : Int)) rfl (by kernel_rfl) (by kernel_rfl) (by kernel_rfl) (fun _ _ _ h => h) (Or.inl ⟨by rfl, ?_⟩) (by assumption) ?_
      · (intro w hSw; (try dsimp only at hSw); go_simp)
      try simp only [Act.put, List.setIfInBounds_toArray, List.set_cons_zero, List.set_cons_succ]
      refine wpAnyH_take (i := 2) (oi := { dst := some 25, op := Op.indexAddr 22 (Operand.tmp 23) (Operand.tmp 24), type := 0, pos := "law.go:86", after := #[{ on := 0, ground := Ground.data }, { on := 1, ground := Ground.data }], guard := none }) (v := .pointer (some (ad.add i))) rfl (by kernel_rfl) (by kernel_rfl) (by kernel_rfl) (fun _ _ _ h => h) (Or.inl ⟨by rfl, ?_⟩) (by assumption) ?_
      · (intro w hSw; (try dsimp only at hSw); go_simp)
      try simp only [Act.put, List.setIfInBounds_toArray, List.set_cons_zero, List.set_cons_succ]
      refine wpAnyH_take (i := 3) (oi := { dst := some 26, op := Op.load 2 (Operand.tmp 25), type := 2, pos := "law.go:86", after := #[{ on := 2, ground := Ground.data }], guard := none }) (v := .int .i64 x) rfl (by kernel_rfl) (by kernel_rfl) (by kernel_rfl) (fun _ _ _ h => h) (Or.inl ⟨by rfl, ?_⟩) (by assumption) ?_
      · (intro w hSw; (try dsimp only at hSw); (have := hcl w hSw; go_simp))
      try simp only [Act.put, List.setIfInBounds_toArray, List.set_cons_zero, List.set_cons_succ]
      refine wpAnyH_take (i := 5) (oi := { dst := some 28, op := Op.move (Operand.tmp 1), type := 22, pos := "law.go:86", after := #[], guard := none }) (v := .slice (some ad) l.length c) rfl (by kernel_rfl) (by kernel_rfl) (by kernel_rfl) (fun _ _ _ h => h) (Or.inl ⟨by rfl, ?_⟩) (by assumption) ?_
      · (intro w hSw; (try dsimp only at hSw); go_simp)
      try simp only [Act.put, List.setIfInBounds_toArray, List.set_cons_zero, List.set_cons_succ]
      refine wpAnyH_take (i := 6) (oi := { dst := some 29, op := Op.move (Operand.tmp 7), type := 3, pos := "law.go:86", after := #[], guard := none }) (v := .int .i64 (i : Int)) rfl (by kernel_rfl) (by kernel_rfl) (by kernel_rfl) (fun _ _ _ h => h) (Or.inl ⟨by rfl, ?_⟩) (by assumption) ?_
      · (intro w hSw; (try dsimp only at hSw); go_simp)
      try simp only [Act.put, List.setIfInBounds_toArray, List.set_cons_zero, List.set_cons_succ]
      refine wpAnyH_take (i := 7) (oi := { dst := some 30, op := Op.indexAddr 22 (Operand.tmp 28) (Operand.tmp 29), type := 0, pos := "law.go:86", after := #[{ on := 5, ground := Ground.data }, { on := 6, ground := Ground.data }], guard := none }) (v := .pointer (some (ad.add i))) rfl (by kernel_rfl) (by kernel_rfl) (by kernel_rfl) (fun _ _ _ h => h) (Or.inl ⟨by rfl, ?_⟩) (by assumption) ?_
      · (intro w hSw; (try dsimp only at hSw); go_simp)
      try simp only [Act.put, List.setIfInBounds_toArray, List.set_cons_zero, List.set_cons_succ]
      refine wpAnyH_take (i := 8) (oi := { dst := some 31, op := Op.load 2 (Operand.tmp 30), type := 2, pos := "law.go:86", after := #[{ on := 7, ground := Ground.data }], guard := none }) (v := .int .i64 x) rfl (by kernel_rfl) (by kernel_rfl) (by kernel_rfl) (fun _ _ _ h => h) (Or.inl ⟨by rfl, ?_⟩) (by assumption) ?_
      · (intro w hSw; (try dsimp only at hSw); (have := hcl w hSw; go_simp))
      try simp only [Act.put, List.setIfInBounds_toArray, List.set_cons_zero, List.set_cons_succ]
      refine wpAnyH_ready (rs := [4]) (by kernel_rfl) (by simp) ?_
      refine AllReadyH.cons (o := { dst := some 27, op := Op.call { callee := Callee.value (Operand.func 25), args := #[Operand.tmp 26], argTypes := #[2] }, type := 3, pos := "law.go:86", after := #[{ on := 3, ground := Ground.data }], guard := none }) rfl (fun K hK => ?_) ?_
      · go_simp
        go_at_call 25
        refine (HWA.out _).mono ?_
        rintro e Wy ⟨rfl, ⟨nd1, rfl⟩⟩
        refine hK.out _ _ (by repeat (first | exact hBr | apply pw_below_drewN | apply below_drew1)) (fun hHeld2 => ?_)
        clear hK K hHeld
        have hHeld := hHeld2
        clear hHeld2
        try simp only [Act.put, List.setIfInBounds_toArray, List.set_cons_zero, List.set_cons_succ]
        refine wpAnyH_ready (rs := [9]) (by kernel_rfl) (by simp) ?_
        refine AllReadyH.cons (o := { dst := some 32, op := Op.call { callee := Callee.value (Operand.func 26), args := #[Operand.tmp 31], argTypes := #[2] }, type := 3, pos := "law.go:86", after := #[{ on := 8, ground := Ground.data }, { on := 4, ground := Ground.chain }], guard := none }) rfl (fun K hK => ?_) ?_
        · go_simp
          go_at_call 26
          refine (HWB.out _).mono ?_
          rintro e Wy ⟨rfl, ⟨nd2, rfl⟩⟩
          refine hK.out _ _ (by repeat (first | exact hBr | apply pw_below_drewN | apply below_drew1)) (fun hHeld2 => ?_)
          clear hK K hHeld
          have hHeld := hHeld2
          clear hHeld2
          try simp only [Act.put, List.setIfInBounds_toArray, List.set_cons_zero, List.set_cons_succ]
          refine wpAnyH_ready (rs := [10]) (by kernel_rfl) (by simp) ?_
          refine AllReadyH.cons (o := { dst := some 33, op := Op.binOp BinOp.neq 3 (Operand.tmp 27) (Operand.tmp 32) 3, type := 4, pos := "law.go:86", after := #[{ on := 4, ground := Ground.data }, { on := 9, ground := Ground.data }], guard := none }) rfl (fun K hK => ?_) ?_
          · go_simp
            refine hK.out _ _ (by repeat (first | exact hBr | apply pw_below_drewN | apply below_drew1)) (fun hHeld2 => ?_)
            clear hK K hHeld
            have hHeld := hHeld2
            clear hHeld2
            try simp only [Act.put, List.setIfInBounds_toArray, List.set_cons_zero, List.set_cons_succ]
            refine wpAnyH_done (by kernel_rfl) ?_ _
            go_wp2
            go_roundw
            case rel => exact ⟨i + 1, by go_num, HCI.out, ⟨HBr.out.trans ((show Below wr.heap.size wr _ by repeat (first | exact hBr | apply pw_below_drewN | apply below_drew1)).mono HBr.out.size)⟩⟩
            case measure => have := HCI.out; simp [intOf]; omega
          exact AllReadyH.nil
        exact AllReadyH.nil
      exact AllReadyH.nil
    · have hie : i = l.length := by omega
      have q1 : decide ((i : Int) < (l.length : Int)) = false := decide_eq_false (by omega)
      have q2 : decide (i < l.length) = false := decide_eq_false ci
      have HWr := Aside0.mk (HB2.out.trans (HBr.out.mono HB2.out.size))
      have HLr := Aside0.mk (HL2.out.keep HBr.out)
      have hBr : Below wr.heap.size wr wr := Below.refl _ _
      obtain ⟨ls, hls⟩ : ∃ ls, ls = strOfNums lb := ⟨_, rfl⟩
      have HLS := Aside0.mk hls
      have cv1 : ∀ w', Below wr.heap.size wr w' → (convert 25 9 (.slice A2 lb.length c2)).run Try.prog w' = .ok (.string ls) w' := fun w' h => by
        rw [hls]; exact Kd.C_string Try.underlying25 Try.underlying5 Try.underlying9 (Kd.C_below HC2.out (HBr.out.trans (h.mono HBr.out.size)))
      have hKC : ∀ w', Below wr.heap.size wr w' → Kd.C (Kd.int .i64) w' A l.length l := fun w' h => Kd.C_below HC.out (HWr.out.trans (h.mono HWr.out.size))
      have hKP : ∀ w', Below wr.heap.size wr w' → Calls Try.prog 16 #[.slice A1 l.length c1, .slice A l.length c] w' fun e w'' => e = .returned (.bool true) ∧ Below w'.heap.size w' w'' := fun w' h => keptI A1 c1 A c l w w' (HLr.out.keep h) (hKC w' h) hc (by omega)
      clear hls hie hi
      go_wp2_with fail
      refine wp_region_held_drew (S := fun w' => Below wr.heap.size wr w') (by kernel_rfl) (below_drew1 hBr) (fun hHeld => ?_)
      refine wpAnyH_take (i := 0) (oi := { dst := some 34, op := Op.move (Operand.tmp 6), type := 25, pos := "law.go:90", after := #[], guard := none }) (v := .slice A2 lb.length c2) rfl (by kernel_rfl) (by kernel_rfl) (by kernel_rfl) (fun _ _ _ h => h) (Or.inl ⟨by rfl, ?_⟩) (by assumption) ?_
      · (intro w hSw; (try dsimp only at hSw); go_simp)
      try simp only [Act.put, List.setIfInBounds_toArray, List.set_cons_zero, List.set_cons_succ]
      refine wpAnyH_take (i := 1) (oi := { dst := some 35, op := Op.convert 25 9 (Operand.tmp 34), type := 9, pos := "law.go:90", after := #[{ on := 0, ground := Ground.data }], guard := none }) (v := .string ls) rfl (by kernel_rfl) (by kernel_rfl) (by kernel_rfl) (fun _ _ _ h => h) (Or.inl ⟨by rfl, ?_⟩) (by assumption) ?_
      · (intro w hSw; (try dsimp only at hSw); (have := cv1 w hSw; go_simp))
      try simp only [Act.put, List.setIfInBounds_toArray, List.set_cons_zero, List.set_cons_succ]
      refine wpAnyH_take (i := 2) (oi := { dst := some 36, op := Op.move (Operand.tmp 0), type := 3, pos := "law.go:90", after := #[], guard := none }) (v := .int .i64 width) rfl (by kernel_rfl) (by kernel_rfl) (by kernel_rfl) (fun _ _ _ h => h) (Or.inl ⟨by rfl, ?_⟩) (by assumption) ?_
      · (intro w hSw; (try dsimp only at hSw); go_simp)
      try simp only [Act.put, List.setIfInBounds_toArray, List.set_cons_zero, List.set_cons_succ]
      refine wpAnyH_take (i := 3) (oi := { dst := some 37, op := Op.move (Operand.tmp 1), type := 22, pos := "law.go:90", after := #[], guard := none }) (v := .slice A l.length c) rfl (by kernel_rfl) (by kernel_rfl) (by kernel_rfl) (fun _ _ _ h => h) (Or.inl ⟨by rfl, ?_⟩) (by assumption) ?_
      · (intro w hSw; (try dsimp only at hSw); go_simp)
      try simp only [Act.put, List.setIfInBounds_toArray, List.set_cons_zero, List.set_cons_succ]
      refine wpAnyH_ready (rs := [4]) (by kernel_rfl) (by simp) ?_
      refine AllReadyH.cons (o := { dst := some 38, op := Op.call { callee := Callee.value (Operand.func 27), args := #[Operand.tmp 36, Operand.tmp 37], argTypes := #[3, 22] }, type := 25, pos := "law.go:90", after := #[{ on := 2, ground := Ground.data }, { on := 3, ground := Ground.data }], guard := none }) rfl (fun K hK => ?_) ?_
      · go_simp
        go_at_call 27
        refine (HR.out _ A c (hKC _ (by repeat (first | exact hBr | apply pw_below_drewN | apply below_drew1))) hc).mono ?_
        rintro e Wy ⟨v5, rfl, hR5, hb5⟩
        obtain ⟨A5, c5, rfl, hc5, hC5⟩ := Kd.R_reads hR5
        have hBk : Below wr.heap.size wr Wy := below_step (below_drew1 hBr) hb5
        have cv2 : (convert 25 9 (.slice A5 lb.length c5)).run Try.prog Wy = .ok (.string (strOfNums lb)) Wy := Kd.C_string Try.underlying25 Try.underlying5 Try.underlying9 hC5
        rw [← HLS.out] at cv2
        clear hR5 hb5 hC5 hc5
        refine hK.out _ _ (hBk) (fun hHeld2 => ?_)
        clear hK K hHeld
        have hHeld := hHeld2
        clear hHeld2
        try simp only [Act.put, List.setIfInBounds_toArray, List.set_cons_zero, List.set_cons_succ]
        refine wpAnyH_ready (rs := [5]) (by kernel_rfl) (by simp) ?_
        refine AllReadyH.cons (o := { dst := some 39, op := Op.convert 25 9 (Operand.tmp 38), type := 9, pos := "law.go:90", after := #[{ on := 4, ground := Ground.data }], guard := none }) rfl (fun K hK => ?_) ?_
        · go_simp
          refine hK.out _ _ (hBk) (fun hHeld2 => ?_)
          clear hK K hHeld
          have hHeld := hHeld2
          clear hHeld2
          try simp only [Act.put, List.setIfInBounds_toArray, List.set_cons_zero, List.set_cons_succ]
          refine wpAnyH_take (i := 6) (oi := { dst := some 40, op := Op.binOp BinOp.eql 9 (Operand.tmp 35) (Operand.tmp 39) 9, type := 4, pos := "law.go:90", after := #[{ on := 1, ground := Ground.data }, { on := 5, ground := Ground.data }], guard := none }) (v := .bool true) rfl (by kernel_rfl) (by kernel_rfl) (by kernel_rfl) (fun _ _ _ h => h) (Or.inl ⟨by rfl, ?_⟩) (by assumption) ?_
          · (intro w hSw; (try dsimp only at hSw); go_simp)
          try simp only [Act.put, List.setIfInBounds_toArray, List.set_cons_zero, List.set_cons_succ]
          refine wpAnyH_take (i := 7) (oi := { dst := some 41, op := Op.move (Operand.tmp 40), type := 4, pos := "law.go:90", after := #[{ on := 6, ground := Ground.data }, { on := 4, ground := Ground.chain }], guard := none }) (v := .bool true) rfl (by kernel_rfl) (by kernel_rfl) (by kernel_rfl) (fun _ _ _ h => h) (Or.inl ⟨by rfl, ?_⟩) (by assumption) ?_
          · (intro w hSw; (try dsimp only at hSw); go_simp)
          try simp only [Act.put, List.setIfInBounds_toArray, List.set_cons_zero, List.set_cons_succ]
          refine wpAnyH_take (i := 8) (oi := { dst := some 42, op := Op.move (Operand.tmp 5), type := 22, pos := "law.go:90", after := #[{ on := 7, ground := Ground.guard }], guard := some (7, true) }) (v := .slice A1 l.length c1) rfl (by kernel_rfl) (by kernel_rfl) (by kernel_rfl) (fun _ _ _ h => h) (Or.inl ⟨by rfl, ?_⟩) (by assumption) ?_
          · (intro w hSw; (try dsimp only at hSw); go_simp)
          try simp only [Act.put, List.setIfInBounds_toArray, List.set_cons_zero, List.set_cons_succ]
          refine wpAnyH_take (i := 9) (oi := { dst := some 43, op := Op.move (Operand.tmp 1), type := 22, pos := "law.go:90", after := #[{ on := 7, ground := Ground.guard }], guard := some (7, true) }) (v := .slice A l.length c) rfl (by kernel_rfl) (by kernel_rfl) (by kernel_rfl) (fun _ _ _ h => h) (Or.inl ⟨by rfl, ?_⟩) (by assumption) ?_
          · (intro w hSw; (try dsimp only at hSw); go_simp)
          try simp only [Act.put, List.setIfInBounds_toArray, List.set_cons_zero, List.set_cons_succ]
          refine wpAnyH_ready (rs := [10]) (by kernel_rfl) (by simp) ?_
          refine AllReadyH.cons (o := { dst := some 44, op := Op.call { callee := Callee.value (Operand.func 16), args := #[Operand.tmp 42, Operand.tmp 43], argTypes := #[22, 22] }, type := 4, pos := "law.go:90", after := #[{ on := 8, ground := Ground.data }, { on := 9, ground := Ground.data }, { on := 7, ground := Ground.chain }, { on := 7, ground := Ground.guard }], guard := some (7, true) }) rfl (fun K hK => ?_) ?_
          · go_simp
            go_at_call 16
            refine (hKP _ hBk).mono ?_
            rintro e Wk ⟨rfl, hbk⟩
            have hBk2 : Below wr.heap.size wr Wk := below_step hBk hbk
            clear hbk cv2
            refine hK.out _ _ (hBk2) (fun hHeld2 => ?_)
            clear hK K hHeld
            have hHeld := hHeld2
            clear hHeld2
            try simp only [Act.put, List.setIfInBounds_toArray, List.set_cons_zero, List.set_cons_succ]
            refine wpAnyH_take (i := 11) (oi := { dst := some 45, op := Op.pick (Operand.tmp 41) (Operand.tmp 44) (Operand.const (Value.bool false)), type := 4, pos := "law.go:90", after := #[{ on := 7, ground := Ground.data }, { on := 10, ground := Ground.data }], guard := none }) (v := .bool true) rfl (by kernel_rfl) (by kernel_rfl) (by kernel_rfl) (fun _ _ _ h => h) (Or.inl ⟨by rfl, ?_⟩) (by assumption) ?_
            · (intro w hSw; (try dsimp only at hSw); go_simp)
            try simp only [Act.put, List.setIfInBounds_toArray, List.set_cons_zero, List.set_cons_succ]
            refine wpAnyH_take (i := 12) (oi := { dst := some 46, op := Op.move (Operand.tmp 45), type := 4, pos := "law.go:90", after := #[{ on := 11, ground := Ground.data }, { on := 10, ground := Ground.chain }], guard := none }) (v := .bool true) rfl (by kernel_rfl) (by kernel_rfl) (by kernel_rfl) (fun _ _ _ h => h) (Or.inl ⟨by rfl, ?_⟩) (by assumption) ?_
            · (intro w hSw; (try dsimp only at hSw); go_simp)
            try simp only [Act.put, List.setIfInBounds_toArray, List.set_cons_zero, List.set_cons_succ]
            refine wpAnyH_ready (rs := [13]) (by kernel_rfl) (by simp) ?_
            refine AllReadyH.cons (o := { dst := some 47, op := Op.call { callee := Callee.value (Operand.func 11), args := #[], argTypes := #[] }, type := 4, pos := "law.go:90", after := #[{ on := 12, ground := Ground.chain }, { on := 12, ground := Ground.guard }], guard := some (12, true) }) rfl (fun K hK => ?_) ?_
            · go_simp
              go_at_call 11
              refine (WT.out _).mono ?_
              rintro e Wz ⟨rfl, hbz⟩
              have hBk3 : Below wr.heap.size wr Wz := below_step hBk2 hbz
              clear hbz
              refine hK.out _ _ (hBk3) (fun hHeld2 => ?_)
              clear hK K hHeld
              have hHeld := hHeld2
              clear hHeld2
              try simp only [Act.put, List.setIfInBounds_toArray, List.set_cons_zero, List.set_cons_succ]
              refine wpAnyH_take (i := 14) (oi := { dst := some 48, op := Op.pick (Operand.tmp 46) (Operand.tmp 47) (Operand.const (Value.bool false)), type := 4, pos := "law.go:90", after := #[{ on := 12, ground := Ground.data }, { on := 13, ground := Ground.data }], guard := none }) (v := .bool true) rfl (by kernel_rfl) (by kernel_rfl) (by kernel_rfl) (fun _ _ _ h => h) (Or.inl ⟨by rfl, ?_⟩) (by assumption) ?_
              · (intro w hSw; (try dsimp only at hSw); go_simp)
              try simp only [Act.put, List.setIfInBounds_toArray, List.set_cons_zero, List.set_cons_succ]
              refine wpAnyH_ready (rs := [15]) (by kernel_rfl) (by simp) ?_
              refine AllReadyH.cons (o := { dst := some 4, op := Op.assign (Operand.tmp 48), type := 4, pos := "law.go:90", after := #[{ on := 14, ground := Ground.data }, { on := 13, ground := Ground.chain }, { on := 0, ground := Ground.phase }, { on := 1, ground := Ground.phase }, { on := 2, ground := Ground.phase }, { on := 3, ground := Ground.phase }, { on := 4, ground := Ground.phase }, { on := 5, ground := Ground.phase }, { on := 6, ground := Ground.phase }, { on := 7, ground := Ground.phase }, { on := 8, ground := Ground.phase }, { on := 9, ground := Ground.phase }, { on := 10, ground := Ground.phase }, { on := 11, ground := Ground.phase }, { on := 12, ground := Ground.phase }, { on := 13, ground := Ground.phase }, { on := 14, ground := Ground.phase }], guard := none }) rfl (fun K hK => ?_) ?_
              · go_simp
                refine hK.out _ _ (hBk3) (fun hHeld2 => ?_)
                clear hK K hHeld
                have hHeld := hHeld2
                clear hHeld2
                try simp only [Act.put, List.setIfInBounds_toArray, List.set_cons_zero, List.set_cons_succ]
                refine wpAnyH_done (by kernel_rfl) ?_ _
                go_wp2
                go_ret
                exact ⟨rfl, HWr.out.trans (hBk3.mono HWr.out.size)⟩
              exact AllReadyH.nil
            exact AllReadyH.nil
          exact AllReadyH.nil
        exact AllReadyH.nil
      exact AllReadyH.nil
theorem gp_all (A : Option Addr) (c : Nat) (width : Int) (l : List Int) (w : World) (hC : Kd.C (Kd.int .i64) w A l.length l) (hc : l.length ≤ c) (hx : ∀ x ∈ l, D13.inI x) :
    Calls Try.prog 6 #[.int .i64 width, .slice A l.length c] w fun e w' => e = .returned (.bool true) ∧ Below w.heap.size w w' := by
  by_cases hl : 1000 < l.length
  · exact gp_long A c width l w hc hl
  · exact gp_main A c width l w hC hc (by omega) hx
end Go.Proofs.Ytbncfhmfohpfbaa.X
end

section
namespace Go.Proofs.Ytbncfhmfohpfbaa.X
open Go.RowKit Go.Proofs.YtbncfhmfohpfbaaW.PrintWords Go.Proofs.YtbncfhmfohpfbaaW.PrintLast Go.Proofs.YtbncfhmfohpfbaaW.PrintMore
attribute [local go_sem] max2_int min2_int max_two min_two max_three min_three max_four min_four
set_option linter.unusedVariables false
set_option linter.unusedSimpArgs false
def marquetrylaw13_DeltaPacks.f (a0 : Int) (l1 : List Int) : Option Bool := if i64All l1 = true then some true else none
theorem marquetrylaw13_DeltaPacks.calls (a0 : Int) (A1 : Option Addr) (c1 : Nat) (l1 : List Int) (r : Bool) (w : World) (hr1 : Kd.C (Kd.int .i64) w A1 l1.length l1) (hc1 : l1.length ≤ c1) (h : marquetrylaw13_DeltaPacks.f a0 l1 = some r) :
    Calls Try.prog 6 #[.int .i64 a0, .slice A1 l1.length c1] w fun e w' => e = .returned (.bool r) ∧ Below w.heap.size w w' := by
  unfold marquetrylaw13_DeltaPacks.f at h
  by_cases hu : i64All l1 = true
  · rw [if_pos hu] at h
    obtain rfl := Option.some.inj h
    exact gp_all A1 c1 a0 l1 w hr1 hc1 (i64All_iff.1 hu)
  · rw [if_neg hu] at h; cases h
def marquetrylaw13_DeltaPacks.Pure : Prop := ∀ (a0 : Int) (l1 : List Int), (Lit.int .i64 a0).wf = true → ((∀ x_ ∈ l1, (Lit.int .i64 x_).wf = true) ∧ l1.length ≤ maxLen ∧ l1.length * 8 ≤ 140737488351232) → marquetrylaw13_DeltaPacks.f a0 l1 = some true
end Go.Proofs.Ytbncfhmfohpfbaa.X
end

section
namespace Go.Proofs.Ytbncfhmfohpfbaa.Rd
open Go.ChangeShapes Go.WideShapes Go.Deep Go.RowKit Go.Joins Go.Proofs.YtbncfhmfohpfbaaW.PrintWords
structure Opens (P : Program) (t : TypeId) {α : Type} (d : Kd α) (Wf : α → Prop) : Prop where
  opens : ∀ {H : Type} {enc : TypeId × Value → H} {w : World} {base : Nat} {spare : Nat → Bool} {held : Bool} {n : Nat} {cs : List Value} {y : DataW H × List MemPlace},
    DataW.trod enc P w base spare held n t cs = some y → (∀ m ∈ y.1.weights P t, m ≤ reachBytes) → ∃ x, d.K w x cs ∧ Wf x
theorem reach_le {m : Nat} (h : m ≤ reachBytes) : m ≤ 140737488351232 := h
theorem opens_int {P : Program} {t : TypeId} {k : IntKind} (hu : P.underlying t = some (.int k)) : Opens P t (Kd.int k) (fun x => (Lit.int k x).wf = true) := by
  refine ⟨fun {H enc w base spare held n cs y} h _ => ?_⟩
  obtain ⟨x, rfl, _, hw⟩ := DataW.trod_int hu h
  exact ⟨x, rfl, hw⟩
theorem list_of {α : Type} {p : Nat → α → Prop} : ∀ (n : Nat), (∀ i, i < n → ∃ x, p i x) → ∃ xs : List α, xs.length = n ∧ ∀ i x, xs[i]? = some x → p i x
  | 0, _ => ⟨[], rfl, fun i x h => by simp at h⟩
  | n + 1, h => by
    obtain ⟨xs, hl, hx⟩ := list_of n (fun i hi => h i (by omega))
    obtain ⟨x, hp⟩ := h n (by omega)
    refine ⟨xs ++ [x], by simp [hl], fun i y hy => ?_⟩
    rcases Nat.lt_or_ge i xs.length with hi | hi
    · rw [List.getElem?_append_left hi] at hy; exact hx i y hy
    · have hi' : i = xs.length := by
        have := (List.getElem?_eq_some_iff.1 hy).1
        simp at this; omega
      subst hi'
      have : x = y := by simpa using hy
      subst this
      rw [hl]; exact hp
theorem weights_all {H : Type} {P : Program} {e : TypeId} : ∀ (ds : List (DataW H)) (d : DataW H), d ∈ ds → ∀ m ∈ d.weights P e, m ∈ DataW.weightsAll P e ds
  | [], d, h, _, _ => by simp at h
  | d0 :: ds, d, h, m, hm => by
    simp only [DataW.weightsAll, List.mem_append]
    rcases List.mem_cons.1 h with rfl | h
    · exact .inl hm
    · exact .inr (weights_all ds d h m hm)
theorem opens_slice {P : Program} {t e : TypeId} {α : Type} {d : Kd α} {Wf : α → Prop} {B : Nat} (hu : P.underlying t = some (.slice e)) (hsz : P.cellsOf e = d.sz) (hB : P.bytesOf e = B) (ho : Opens P e d Wf) :
    Opens P t (Kd.slice e d) (fun xs => (∀ x ∈ xs, Wf x) ∧ xs.length ≤ maxLen ∧ xs.length * B ≤ 140737488351232) := by
  refine ⟨fun {H enc w base spare held n cs y} h hw => ?_⟩
  rcases open_slice hu h with ⟨rfl, _⟩ | ⟨a, len, cap, m, n', D, Pl, rfl, hb, hl, hm, hmm, rfl, hx⟩
  · exact ⟨[], ⟨none, 0, rfl, Nat.le_refl _, rfl, Nat.zero_le _, fun h => absurd h (by simp)⟩, by simp⟩
  · have hlm : len ≤ m := by rw [hmm]; split <;> omega
    have hsize : len * B ≤ 140737488351232 := by
      have := hw ((((List.range len).map D).length + ((List.range (m - len)).map fun j => D (len + j)).length) * P.bytesOf e) (by simp [DataW.weights, hu])
      rw [hB] at this
      refine Nat.le_trans (Nat.mul_le_mul_right _ ?_) (reach_le this)
      simp
    obtain ⟨xs, hxl, hxs⟩ := list_of (p := fun i x => ∃ cs', w.cells? base (a.add (i * P.cellsOf e)) (P.cellsOf e) = some cs' ∧ d.K w x cs' ∧ Wf x) len (fun i hi => by
      obtain ⟨cs', h1, h2⟩ := hx i (by omega)
      obtain ⟨x, hk, hwf⟩ := ho.opens h2 (fun q hq => hw q (by
        simp only [DataW.weights, hu, List.mem_cons, List.mem_append]
        exact .inr (.inl (weights_all _ (D i) (List.mem_map.2 ⟨i, List.mem_range.2 hi, rfl⟩) q hq))))
      exact ⟨x, cs', h1, hk, hwf⟩)
    subst hxl
    refine ⟨xs, ⟨some a, cap, rfl, hl, rfl, ?_, fun _ => ⟨a, rfl, fun j p hp => ?_⟩⟩, ⟨fun x hx' => ?_, Nat.le_trans hl hm, hsize⟩⟩
    · unfold maxLen at hm; omega
    · obtain ⟨cs', h1, hk, _⟩ := hxs j p hp
      obtain ⟨_, hcl, hcc⟩ := World.cells?_some h1
      refine ⟨cs', by rw [hcl, hsz], hk, fun i u hiu => ?_⟩
      have hi : i < P.cellsOf e := by rw [← hcl]; exact (List.getElem?_eq_some_iff.1 hiu).1
      rw [← hsz, ← Go.Deep.add_add, hcc i hi]
      exact hiu
    · obtain ⟨i, hi⟩ := List.getElem?_of_mem hx'
      exact (hxs i x hi).choose_spec.2.2
theorem one_of {P : Program} {fs : Array Field} (hone : oneCellFields P fs = true) {j : Nat} {f : Field} (h : fs.toList[j]? = some f) : f.offset = j ∧ P.cellsOf f.type = 1 := hone_of hone j f (by simpa using h)
theorem opens_arg {P : Program} {t : TypeId} {α : Type} {d : Kd α} {Wf : α → Prop} (ho : Opens P t d Wf) {H : Type} {enc : TypeId × Value → H} {w : World} {base : Nat} {spare : Nat → Bool} {held : Bool} {v : Value} {dt : DataW H} {p : List MemPlace}
    (h : DataW.Trod enc P w base spare held t v dt p) {ts : List TypeId} {ds : List (DataW H)} {j : Nat} (hsz : (DataW.weightsEach P ts ds).all (· ≤ reachBytes) = true) (ht : ts[j]? = some t) (hd : ds[j]? = some dt) : ∃ x, d.K w x v.cells.toList ∧ Wf x := by
  obtain ⟨n, hn⟩ := h
  refine ho.opens hn (fun m hm => ?_)
  have := List.all_eq_true.1 hsz m (DataW.weights_mem_each ht hd m hm)
  simpa using this
end Go.Proofs.Ytbncfhmfohpfbaa.Rd
end
