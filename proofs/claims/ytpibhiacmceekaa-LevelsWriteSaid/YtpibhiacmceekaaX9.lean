/- Written by a program of this session (wip/xprint.py) with the kit's printer: Go functions as Lean functions, and that the code comes to their answers. -/
import Derived.Test.YtpibhiacmceekaaX0
import Derived.Test.YtpibhiacmceekaaX5
import Derived.Test.YtpibhiacmceekaaX8
import Derived.Test.YtpibhiacmceekaaHx
namespace Go.Proofs.Ytpibhiacmceekaa.X
open Go.RowKit Go.Proofs.YtpibhiacmceekaaW.PrintWords Go.Proofs.YtpibhiacmceekaaW.PrintLast Go.Proofs.YtpibhiacmceekaaW.PrintMore
attribute [local go_sem] max2_int min2_int max_two min_two max_three min_three max_four min_four   -- for this text's walks alone
set_option linter.unusedVariables false
set_option linter.unusedSimpArgs false

/-! ### bits_Pack: function 41 (by hand): bytes that grow by bits, behind a pointer -/

/-- One bit more: where a byte ends, a new one; the bit laid into the last. -/
def pkv (n i x u : Int) : Int := bits .or .u8 x (bits .and .u64 (n / 2 ^ i.toNat) 1 % 256 * 2 ^ u.toNat % 256)
theorem pkv_zero (n i x : Int) : pkv n i x 0 = bits .or .u8 x (bits .and .u64 (n / 2 ^ i.toNat) 1 % 256) := by
  unfold pkv; congr 1; simp
def pkb (n i : Int) (ys : List Int) (u : Int) : List Int := ys.set (ys.length - 1) (pkv n i (rd ys ((ys.length : Int) - 1)) u)
def pkl : Nat → Int → Int → Int → List Int → Int → Option (List Int × Int)
  | 0, _, _, _, _, _ => none
  | k + 1, n, width, i, xs, u =>
    if i < width then
      (if u = 0 then (if xs.length < 1000000000 then pkl k n width (i + 1) (pkb n i (xs ++ [0]) u) ((u + 1) % 8) else none)
       else (if 0 < xs.length ∧ xs.length < 1000000000 then pkl k n width (i + 1) (pkb n i xs u) ((u + 1) % 8) else none))
    else some (xs, u)
theorem pk_info : (Try.prog.info? 5).map (fun i => (i.zero, i.size, i.bytes)) = some (some (.int .u8 0), 1, 1) := by kernel_rfl
theorem pk_after {W w0 : World} {base g b cap : Nat} {xs : List Int} {u : Int} (HG : W.heap[g]? = some (.cells #[.slice (some ⟨b, 0, none⟩) xs.length cap, .int .i64 u] 89 (0, 0)))
    (HO : W.ownsRow base 5 1 (.slice (some ⟨b, 0, none⟩) xs.length cap) xs.length (nums .u8 xs)) (HB : Below base w0 W) (hbg : base ≤ g) (hbb : base ≤ b) (j : Nat) (x u' : Int) :
    ((W.setCell ⟨b, j, none⟩ (.int .u8 x)).setCell ⟨g, 1, none⟩ (.int .i64 u')).heap[g]? = some (.cells #[.slice (some ⟨b, 0, none⟩) xs.length cap, .int .i64 u'] 89 (0, 0)) ∧
    ((W.setCell ⟨b, j, none⟩ (.int .u8 x)).setCell ⟨g, 1, none⟩ (.int .i64 u')).ownsRow base 5 1 (.slice (some ⟨b, 0, none⟩) (xs.set j x).length cap) (xs.set j x).length (nums .u8 (xs.set j x)) ∧
    Below base w0 ((W.setCell ⟨b, j, none⟩ (.int .u8 x)).setCell ⟨g, 1, none⟩ (.int .i64 u')) ∧ ((W.setCell ⟨b, j, none⟩ (.int .u8 x)).setCell ⟨g, 1, none⟩ (.int .i64 u')).heap.size = W.heap.size := by
  have hne : some g ≠ (Value.slice (some ⟨b, 0, none⟩) xs.length cap).ownBlock := own_ne HO HG (by decide)
  have hgb : g ≠ b := by intro e; exact hne (by simp [Value.ownBlock, e])
  have h1 := (own_store HO (j : Int) x).1
  rw [show ((j : Int)).toNat = j from rfl] at h1
  have h2 := blk_far HG (p := ⟨b, j, none⟩) hgb (.int .u8 x)
  have h3 := blk_set h2 1 (.int .i64 u')
  refine ⟨h3, ?_, (HB.setCell (p := ⟨b, j, none⟩) hbb _).setCell (p := ⟨g, 1, none⟩) hbg _, by simp⟩
  have h4 := own_setCell h1 (p := ⟨g, 1, none⟩) (by simpa [Value.ownBlock] using hgb) (.int .i64 u')
  simpa using h4

set_option maxRecDepth 100000 in
set_option maxHeartbeats 1000000 in
theorem pk_add (k : Nat) (g : Nat) (v : Value) (n width : Int) (xs : List Int) (u : Int) (xs' : List Int) (u' : Int) (w0 w : World) (base : Nat) (hu0 : 0 ≤ u) (hu8 : u < 8) (hw0 : 0 ≤ width) (hw1 : width ≤ 64)
    (hg : w.heap[g]? = some (.cells #[v, .int .i64 u] 89 (0, 0))) (ho : w.ownsRow base 5 1 v xs.length (nums .u8 xs)) (hB : Below base w0 w) (hbg : base ≤ g) (h : pkl k n width 0 xs u = some (xs', u')) :
    Calls Try.prog 56 #[.pointer (some ⟨g, 0, none⟩), .int .u64 n, .int .i64 width] w fun e w' => (∃ x, e = .returned x) ∧ (∃ v', w'.heap[g]? = some (.cells #[v', .int .i64 u'] 89 (0, 0)) ∧ w'.ownsRow base 5 1 v' xs'.length (nums .u8 xs')) ∧ Below base w0 w' ∧ w.heap.size ≤ w'.heap.size := by
  have H' := Aside0.mk h
  clear h
  have hg := Aside0.mk hg
  have ho := Aside0.mk ho
  have hB := Aside0.mk hB
  go_enter Try.func56, Try.ntmps56
  go_wp2
  go_loopg [8] k (fun kq v8 w' => ∃ (i : Int) (xs1 : List Int) (u1 : Int) (v1 : Value), v8 = .int .i64 i ∧ Aside0 (pkl kq n width i xs1 u1 = some (xs', u')) ∧ Aside0 (kq ≤ k) ∧ 0 ≤ i ∧ i ≤ width ∧ 0 ≤ u1 ∧ u1 < 8 ∧
    Aside0 (w'.heap[g]? = some (.cells #[v1, .int .i64 u1] 89 (0, 0))) ∧ Aside0 (w'.ownsRow base 5 1 v1 xs1.length (nums .u8 xs1)) ∧ Aside0 (Below base w0 w') ∧ Aside0 (w.heap.size ≤ w'.heap.size))
  case atStart => exact ⟨0, xs, u, v, rfl, H', ⟨Nat.le_refl _⟩, by omega, by omega, hu0, hu8, hg, ho, hB, ⟨Nat.le_refl _⟩⟩
  case round =>
    clear H' hg ho hB hu0 hu8
    obtain ⟨i, xs1, u1, v1, rfl, HA, HK, hi0, hi1, hu0, hu8, HG, HO, HB, HS⟩ := hrel
    cases gk with
    | zero => exact absurd HA.out (by simp [pkl])
    | succ k1 =>
      have H := HA.out
      clear HA
      simp only [pkl] at H
      by_cases hlt : i < width
      · rw [if_pos hlt] at H
        by_cases hz : u1 = 0
        · rw [if_pos hz] at H
          subst hz
          by_cases hlim : xs1.length < 1000000000
          · rw [if_pos hlim] at H
            have H' := Aside0.mk H
            clear H
            have hlim := Aside0.mk hlim
            have c0 : wr.cell? ⟨g, 0, none⟩ = some v1 := blk_cell HG.out 0
            have c1 : wr.cell? ⟨g, 1, none⟩ = some (.int .i64 0) := blk_cell HG.out 1
            have f0 : wr.frozen? ⟨g, 0, none⟩ = false := blk_frozen HG.out 0
            have HS0 := Aside0.mk (show base ≤ wr.heap.size from Nat.le_trans hbg (Nat.le_of_lt (blk_lt HG.out)))
            obtain ⟨ys, hys⟩ : ∃ ys, ys = xs1 ++ [0] := ⟨_, rfl⟩
            rw [← hys] at H'
            have Hys := Aside0.mk hys
            clear hys
            go_wp2_with (first | ((with_reducible refine gate_builtin (b := .append) (xs := #[.tmp 20, .tmp 21]) rfl ?_); at_builtin; refine print_append_num (w0 := w0) base rfl (.tmp 20) (.tmp 21) 37 5 .u8 1 rfl Try.underlying37 pk_info (by decide) v1 xs1 0 rfl rfl HO.out HB.out HS0.out (by have := hlim.out; omega) ?_; intro v2 w2 ho2 hb2 hg2 hat2; rw [← Hys.out] at ho2; obtain ⟨b, cap, rfl, hb1, _⟩ := ho2.form (by rw [Hys.out]; simp); have hG2 := blk_grown HG.out hg2 (own_ne HO.out HG.out (by decide)); have f02 : w2.frozen? ⟨g, 0, none⟩ = false := blk_frozen hG2 0; have c02 : w2.cell? ⟨g, 0, none⟩ = some v1 := blk_cell hG2 0; have hG2 := Aside0.mk hG2; have ho2 := Aside0.mk ho2; have hb2 := Aside0.mk hb2; have hs2 := Aside0.mk hg2.size; clear hg2 hat2 c0 c1 f0))
            have hlim2 : ys.length < 1000000001 := by rw [Hys.out]; simp; have := hlim.out; omega
            have hpos : 0 < ys.length := by rw [Hys.out]; simp
            have hgb : g ≠ b := by intro e; exact own_ne ho2.out hG2.out (by decide) (by simp [Value.ownBlock, e])
            have HG := Aside0.mk (blk_set hG2.out 0 (.slice (some ⟨b, 0, none⟩) ys.length cap))
            have HO := Aside0.mk (own_setCell ho2.out (p := ⟨g, 0, none⟩) (by simpa [Value.ownBlock] using hgb) (.slice (some ⟨b, 0, none⟩) ys.length cap))
            have HB := Aside0.mk (hb2.out.setCell (p := ⟨g, 0, none⟩) hbg (.slice (some ⟨b, 0, none⟩) ys.length cap))
            have HS2 := Aside0.mk (show wr.heap.size ≤ (w2.setCell ⟨g, 0, none⟩ (.slice (some ⟨b, 0, none⟩) ys.length cap)).heap.size by simpa using hs2.out)
            clear ho2 hG2 hb2 hs2 f02 c02
            have c0 : (w2.setCell ⟨g, 0, none⟩ (.slice (some ⟨b, 0, none⟩) ys.length cap)).cell? ⟨g, 0, none⟩ = some (.slice (some ⟨b, 0, none⟩) ys.length cap) := blk_cell HG.out 0
            have c1 : (w2.setCell ⟨g, 0, none⟩ (.slice (some ⟨b, 0, none⟩) ys.length cap)).cell? ⟨g, 1, none⟩ = some (.int .i64 0) := blk_cell HG.out 1
            obtain ⟨cB, fB⟩ := own_at HO.out ((ys.length : Int) - 1) (by omega) (by omega)
            rw [show ((ys.length : Int) - 1).toNat = ys.length - 1 by omega] at cB fB
            obtain ⟨x, hx⟩ : ∃ x, x = rd ys ((ys.length : Int) - 1) := ⟨_, rfl⟩
            rw [← hx] at cB
            have Hx := Aside0.mk hx
            clear hx
            have f1 : (w2.setCell ⟨g, 0, none⟩ (.slice (some ⟨b, 0, none⟩) ys.length cap)).frozen? ⟨g, 1, none⟩ = false := blk_frozen HG.out 1
            have hgb : g ≠ b := by intro e; exact own_ne HO.out HG.out (by decide) (by simp [Value.ownBlock, e])
            refine region_tail 24 (by kernel_rfl) (by kernel_rfl) (fun w3 hw3 => ?_)
            simp only [List.take_succ_cons, List.take_zero, List.drop_succ_cons, List.drop_zero]
            have c0' : w3.cell? ⟨g, 0, none⟩ = some (.slice (some ⟨b, 0, none⟩) ys.length cap) := by rw [hw3]; exact c0
            have c1' : w3.cell? ⟨g, 1, none⟩ = some (.int .i64 0) := by rw [hw3]; exact c1
            have cB' : w3.cell? ⟨b, ys.length - 1, none⟩ = some (.int .u8 x) := by rw [hw3]; exact cB
            have fB' : w3.frozen? ⟨b, ys.length - 1, none⟩ = false := by rw [hw3]; exact fB
            have f1' : w3.frozen? ⟨g, 1, none⟩ = false := by rw [hw3]; exact f1
            have HG3 := Aside0.mk (show w3.heap[g]? = some (.cells #[.slice (some ⟨b, 0, none⟩) ys.length cap, (.int .i64 0)] 89 (0, 0)) by rw [hw3]; exact HG.out)
            have HO3 := Aside0.mk (show w3.ownsRow base 5 1 (.slice (some ⟨b, 0, none⟩) ys.length cap) ys.length (nums .u8 ys) by rw [hw3]; exact HO.out.drew)
            have HB3 := Aside0.mk (show Below base w0 w3 by rw [hw3]; exact below_drew1 HB.out)
            have HS3 := Aside0.mk (show w.heap.size ≤ w3.heap.size by rw [hw3]; exact Nat.le_trans HS.out HS2.out)
            clear hw3 c0 c1 f1 cB fB HG HO HB HS2
            have c1'' : (w3.setCell ⟨b, ys.length - 1, none⟩ (.int .u8 (bits .or .u8 x (bits .and .u64 (n / 2 ^ i.toNat) 1 % 256)))).cell? ⟨g, 1, none⟩ = some (.int .i64 0) := by
              rw [World.cell?_setCell_other _ _ _ _ (by simp [hgb])]; exact c1'
            have f1'' : (w3.setCell ⟨b, ys.length - 1, none⟩ (.int .u8 (bits .or .u8 x (bits .and .u64 (n / 2 ^ i.toNat) 1 % 256)))).frozen? ⟨g, 1, none⟩ = false := by
              rw [World.frozen?_setCell]; exact f1'
            have e1 : IntKind.i64.wrap ((ys.length : Int) - 1) = (ys.length : Int) - 1 := IntWalk.i64_in _ (by omega)
            have e2 : 0 ≤ (ys.length : Int) - 1 := by omega
            have e3 : ((ys.length : Int) - 1).toNat = ys.length - 1 := by omega
            have e5 : 1 ≤ (ys.length : Int) := by omega
            have e4 : (ys.length : Int) - 1 < ys.length := by omega
            repeat still_step
            refine wpStill_nil ?_
            clear e1 e2 e3 e4 e5
            go_wp2
            go_roundg k1
            case measure => have := HK.out; omega
            case rel =>
              obtain ⟨q1, q2, q3, q4⟩ := pk_after HG3.out HO3.out HB3.out hbg hb1 (ys.length - 1) (bits .or .u8 x (bits .and .u64 (n / 2 ^ i.toNat) 1 % 256)) (1)
              have hpl : (pkb n i ys 0).length = ys.length := by simp [pkb]
              refine ⟨i + 1, pkb n i ys 0, 1, .slice (some ⟨b, 0, none⟩) ys.length cap, rfl, H', ⟨by have := HK.out; omega⟩, by omega, by omega, by omega, by omega, ⟨q1⟩, ⟨?_⟩, ⟨q3⟩, ⟨Nat.le_trans HS3.out (Nat.le_of_eq q4.symm)⟩⟩
              rw [List.length_set] at q2
              rw [hpl]; unfold pkb; rw [← Hx.out, pkv_zero]; exact q2
          · rw [if_neg hlim] at H
            exact absurd H (by simp)
        · rw [if_neg hz] at H
          have hzb : (u1 == 0) = false := beq_eq_false_iff_ne.2 hz
          by_cases hpos : 0 < xs1.length ∧ xs1.length < 1000000000
          · rw [if_pos hpos] at H
            have H' := Aside0.mk H
            clear H hz
            obtain ⟨hpos, hlim⟩ := hpos
            obtain ⟨b, cap, rfl, hb1, hb2⟩ := HO.out.form hpos
            have c0 : wr.cell? ⟨g, 0, none⟩ = some (.slice (some ⟨b, 0, none⟩) xs1.length cap) := blk_cell HG.out 0
            have c1 : wr.cell? ⟨g, 1, none⟩ = some (.int .i64 u1) := blk_cell HG.out 1
            have HS2 := Aside0.mk (Nat.le_refl wr.heap.size)
            go_wp2_with fail
            obtain ⟨cB, fB⟩ := own_at HO.out ((xs1.length : Int) - 1) (by omega) (by omega)
            rw [show ((xs1.length : Int) - 1).toNat = xs1.length - 1 by omega] at cB fB
            obtain ⟨x, hx⟩ : ∃ x, x = rd xs1 ((xs1.length : Int) - 1) := ⟨_, rfl⟩
            rw [← hx] at cB
            have Hx := Aside0.mk hx
            clear hx
            have f1 : wr.frozen? ⟨g, 1, none⟩ = false := blk_frozen HG.out 1
            have hgb : g ≠ b := by intro e; exact own_ne HO.out HG.out (by decide) (by simp [Value.ownBlock, e])
            refine region_tail 24 (by kernel_rfl) (by kernel_rfl) (fun w3 hw3 => ?_)
            simp only [List.take_succ_cons, List.take_zero, List.drop_succ_cons, List.drop_zero]
            have c0' : w3.cell? ⟨g, 0, none⟩ = some (.slice (some ⟨b, 0, none⟩) xs1.length cap) := by rw [hw3]; exact c0
            have c1' : w3.cell? ⟨g, 1, none⟩ = some (.int .i64 u1) := by rw [hw3]; exact c1
            have cB' : w3.cell? ⟨b, xs1.length - 1, none⟩ = some (.int .u8 x) := by rw [hw3]; exact cB
            have fB' : w3.frozen? ⟨b, xs1.length - 1, none⟩ = false := by rw [hw3]; exact fB
            have f1' : w3.frozen? ⟨g, 1, none⟩ = false := by rw [hw3]; exact f1
            have HG3 := Aside0.mk (show w3.heap[g]? = some (.cells #[.slice (some ⟨b, 0, none⟩) xs1.length cap, (.int .i64 u1)] 89 (0, 0)) by rw [hw3]; exact HG.out)
            have HO3 := Aside0.mk (show w3.ownsRow base 5 1 (.slice (some ⟨b, 0, none⟩) xs1.length cap) xs1.length (nums .u8 xs1) by rw [hw3]; exact HO.out.drew)
            have HB3 := Aside0.mk (show Below base w0 w3 by rw [hw3]; exact below_drew1 HB.out)
            have HS3 := Aside0.mk (show w.heap.size ≤ w3.heap.size by rw [hw3]; exact Nat.le_trans HS.out HS2.out)
            clear hw3 c0 c1 f1 cB fB HG HO HB HS2
            have c1'' : (w3.setCell ⟨b, xs1.length - 1, none⟩ (.int .u8 (bits .or .u8 x (bits .and .u64 (n / 2 ^ i.toNat) 1 % 256 * 2 ^ u1.toNat % 256)))).cell? ⟨g, 1, none⟩ = some (.int .i64 u1) := by
              rw [World.cell?_setCell_other _ _ _ _ (by simp [hgb])]; exact c1'
            have f1'' : (w3.setCell ⟨b, xs1.length - 1, none⟩ (.int .u8 (bits .or .u8 x (bits .and .u64 (n / 2 ^ i.toNat) 1 % 256 * 2 ^ u1.toNat % 256)))).frozen? ⟨g, 1, none⟩ = false := by
              rw [World.frozen?_setCell]; exact f1'
            have e1 : IntKind.i64.wrap ((xs1.length : Int) - 1) = (xs1.length : Int) - 1 := IntWalk.i64_in _ (by omega)
            have e2 : 0 ≤ (xs1.length : Int) - 1 := by omega
            have e3 : ((xs1.length : Int) - 1).toNat = xs1.length - 1 := by omega
            have e5 : 1 ≤ (xs1.length : Int) := by omega
            have e4 : (xs1.length : Int) - 1 < xs1.length := by omega
            repeat still_step
            refine wpStill_nil ?_
            clear e1 e2 e3 e4 e5
            go_wp2
            go_roundg k1
            case measure => have := HK.out; omega
            case rel =>
              obtain ⟨q1, q2, q3, q4⟩ := pk_after HG3.out HO3.out HB3.out hbg hb1 (xs1.length - 1) (bits .or .u8 x (bits .and .u64 (n / 2 ^ i.toNat) 1 % 256 * 2 ^ u1.toNat % 256)) ((u1 + 1) % 8)
              have hpl : (pkb n i xs1 u1).length = xs1.length := by simp [pkb]
              refine ⟨i + 1, pkb n i xs1 u1, (u1 + 1) % 8, .slice (some ⟨b, 0, none⟩) xs1.length cap, rfl, H', ⟨by have := HK.out; omega⟩, by omega, by omega, by omega, by omega, ⟨q1⟩, ⟨?_⟩, ⟨q3⟩, ⟨Nat.le_trans HS3.out (Nat.le_of_eq q4.symm)⟩⟩
              rw [List.length_set] at q2
              rw [hpl]; unfold pkb; rw [← Hx.out, show pkv n i x u1 = bits .or .u8 x (bits .and .u64 (n / 2 ^ i.toNat) 1 % 256 * 2 ^ u1.toNat % 256) from rfl]; exact q2
          · rw [if_neg hpos] at H
            exact absurd H (by simp)
      · rw [if_neg hlt] at H
        obtain ⟨rfl, rfl⟩ : xs1 = xs' ∧ u1 = u' := by simpa using H
        clear H
        go_wp2
        go_end0
        exact ⟨⟨_, rfl⟩, ⟨v1, HG.out, HO.out⟩, HB.out, HS.out⟩

/-- May each number be packed? -/
def pkc (K : Nat) (width : Int) : List Int → Option Bool
  | [] => some true
  | x :: l => (bits_Width.f K x).bind fun t => if t > width then some false else pkc K width l
/-- The numbers, one behind the other. -/
def pks (K : Nat) (width : Int) : List Int → List Int → Int → Option (List Int × Int)
  | [], xs, u => some (xs, u)
  | x :: l, xs, u => (pkl K x width 0 xs u).bind fun p => if 0 ≤ p.2 ∧ p.2 < 8 then pks K width l p.1 p.2 else none
def bits_Pack.f (k : Nat) (a0 : Int) (l1 : List Int) : Option (List Int × Int) :=
  if a0 < 0 then some ([], 2) else if a0 > 64 then some ([], 2) else
  (pkc k a0 l1).bind fun b => if b = true then (bits_Size.f k a0 (l1.length : Int)).bind fun s => if s.2 = 0 then (pks k a0 l1 [] 0).bind fun p => some (p.1, 0) else some ([], s.2) else some ([], 2)
theorem pkl_mono : ∀ k n width i xs u, LeO (pkl k n width i xs u) (pkl (k + 1) n width i xs u)
  | 0, _, _, _, _, _ => LeO.none _
  | k + 1, n, width, i, xs, u => by
    rw [pkl, pkl]
    exact LeO.ite (LeO.ite (LeO.ite (pkl_mono k _ _ _ _ _) (LeO.refl _)) (LeO.ite (pkl_mono k _ _ _ _ _) (LeO.refl _))) (LeO.refl _)
theorem pkc_mono : ∀ k width l, LeO (pkc k width l) (pkc (k + 1) width l)
  | _, _, [] => LeO.refl _
  | k, width, x :: l => by
    rw [pkc, pkc]
    exact LeO.bind (bits_Width.mono _ _) (fun _ => LeO.ite (LeO.refl _) (pkc_mono k width l))
theorem pks_mono : ∀ k width l xs u, LeO (pks k width l xs u) (pks (k + 1) width l xs u)
  | _, _, [], _, _ => LeO.refl _
  | k, width, x :: l, xs, u => by
    rw [pks, pks]
    exact LeO.bind (pkl_mono _ _ _ _ _ _) (fun _ => LeO.ite (pks_mono k width l _ _) (LeO.refl _))
theorem bits_Pack.mono : ∀ a0 l1 k, LeO (bits_Pack.f k a0 l1) (bits_Pack.f (k + 1) a0 l1) := by
  intro a0 l1 k
  unfold bits_Pack.f
  exact LeO.ite (LeO.refl _) (LeO.ite (LeO.refl _) (LeO.bind (pkc_mono _ _ _) (fun _ => LeO.ite (LeO.bind (bits_Size.mono _ _ _) (fun _ => LeO.ite (LeO.bind (pks_mono _ _ _ _ _) (fun _ => LeO.refl _)) (LeO.refl _))) (LeO.refl _))))
theorem drop_at {l : List Int} {i : Nat} (h : i < l.length) : l.drop i = l.getD i 0 :: l.drop (i + 1) := by
  rw [List.drop_eq_getElem_cons h, List.getD_eq_getElem?_getD, List.getElem?_eq_getElem h]; rfl

set_option maxRecDepth 100000 in
set_option maxHeartbeats 1000000 in
theorem pk_pack (k : Nat) (a0 : Int) (A1 : Option Addr) (c1 : Nat) (l1 : List Int) (r1 : List Int) (r2 : Int) (w : World) (hr1 : Kd.C (Kd.int .u64) w A1 l1.length l1) (hc1 : l1.length ≤ c1) (ha0 : ¬ a0 < 0) (ha1 : ¬ a0 > 64)
    (h : ((pkc k a0 l1).bind fun b => if b = true then (bits_Size.f k a0 (l1.length : Int)).bind fun s => if s.2 = 0 then (pks k a0 l1 [] 0).bind fun p => some (p.1, 0) else some ([], s.2) else some ([], 2)) = some (r1, r2)) :
    Calls Try.prog 41 #[.int .i64 a0, .slice A1 l1.length c1] w fun e w' => ∃ v0_ : Value, e = .returned (.tuple #[v0_, .int .i64 r2]) ∧ Kd.R (Kd.int .u8) 5 w' w.heap.size (fun _ => True) v0_ r1 ∧ Below w.heap.size w w' := by
  obtain ⟨b, hb, h⟩ := Option.bind_eq_some_iff.1 h
  have Hb := Aside0.mk hb
  have H := Aside0.mk h
  clear h hb
  have hl : l1.length ≤ 9223372036854775807 := hr1.2.1
  have HR1 := Aside0.mk hr1
  clear hr1
  have ha0b := decide_eq_false ha0
  have ha1b := decide_eq_false ha1
  have ha00 : 0 ≤ a0 := by omega
  have ha64 : a0 ≤ 64 := by omega
  clear ha0 ha1
  go_enter Try.func41, Try.ntmps41
  go_wp2
  go_loopw [21] (fun v21 w' => ∃ j : Nat, v21 = .int .i64 j ∧ j ≤ l1.length ∧ Aside0 (pkc k a0 (l1.drop j) = some b) ∧ Aside0 (Drawn0 w w')) (fun v21 w' => l1.length - (intOf v21).toNat)
  case atStart => exact ⟨0, rfl, Nat.zero_le _, by simpa using Hb, ⟨Drawn0.refl _⟩⟩
  case round =>
    obtain ⟨j, rfl, hj, HA, HD⟩ := hrel
    by_cases hlt : j < l1.length
    · have hA := HA.out
      rw [drop_at hlt, pkc] at hA
      obtain ⟨t, ht, hA⟩ := Option.bind_eq_some_iff.1 hA
      have Ht := Aside0.mk ht
      clear ht
      obtain ⟨ad, rfl, hcell⟩ := c_at (Kd.C_below HR1.out HD.out.below) (j : Int) (by omega) (by omega)
      have e : rd l1 (j : Int) = l1.getD j 0 := rfl
      rw [e, show ((j : Int)).toNat = j from rfl] at hcell
      obtain ⟨x, hx⟩ : ∃ x, x = l1.getD j 0 := ⟨_, rfl⟩
      rw [← hx] at hcell Ht
      clear e hx
      by_cases htw : t > a0
      · rw [if_pos htw] at hA
        obtain rfl := Option.some.inj hA
        clear hA HA
        have H2 := H.out
        rw [if_neg (by decide)] at H2
        obtain ⟨rfl, rfl⟩ : ([] : List Int) = r1 ∧ 2 = r2 := by simpa using H2
        clear H2
        have htwb := decide_eq_true (show a0 < t from htw)
        go_wp2_with (go_at_call 36; refine (bits_Width.calls k x t _ Ht.out).mono ?_; rintro e w' ⟨rfl, ⟨nd, rfl⟩⟩)
        go_ret2
        exact ⟨_, rfl, Kd.R_nil _ _ _ _ _, by repeat (first | exact HD.out.below | apply pw_below_drewN)⟩
      · rw [if_neg htw] at hA
        have HA' := Aside0.mk hA
        clear hA HA
        have htwb := decide_eq_false (show ¬ a0 < t from htw)
        go_wp2_with (go_at_call 36; refine (bits_Width.calls k x t _ Ht.out).mono ?_; rintro e w' ⟨rfl, ⟨nd, rfl⟩⟩)
        go_roundw
        case rel => exact ⟨j + 1, by go_num, by omega, HA', ⟨HD.out.step _⟩⟩
        case measure => simp [intOf]; omega
    · have hA := HA.out
      rw [List.drop_eq_nil_of_le (by omega), pkc] at hA
      obtain rfl := Option.some.inj hA
      clear hA HA
      have h2 := H.out
      rw [if_pos rfl] at h2
      obtain ⟨⟨s1, s2⟩, hs, h2⟩ := Option.bind_eq_some_iff.1 h2
      have Hs := Aside0.mk hs
      have H2 := Aside0.mk h2
      clear hs h2 H Hb
      by_cases hs2 : s2 = 0
      · subst hs2
        have h3 := H2.out
        rw [if_pos rfl] at h3
        obtain ⟨⟨p1, p2⟩, hp, h3⟩ := Option.bind_eq_some_iff.1 h3
        obtain ⟨rfl, rfl⟩ : p1 = r1 ∧ 0 = r2 := by simpa using h3
        have Hp := Aside0.mk hp
        clear hp h3 H2 h
        obtain ⟨wo, rfl⟩ : ∃ wo : World, wo = wr := ⟨_, rfl⟩
        have HDB := Aside0.mk HD.out.below
        have HSZ := Aside0.mk HD.out.below.size
        clear HD
        go_wp2_with (go_at_call 55; refine (bits_Size.calls k a0 (l1.length : Int) s1 0 _ Hs.out).mono ?_; rintro e w' ⟨rfl, ⟨nd, rfl⟩⟩)
        go_loopw [42] (fun v42 w' => ∃ (j : Nat) (xs : List Int) (u : Int) (v : Value), v42 = .int .i64 j ∧ j ≤ l1.length ∧ Aside0 (pks k a0 (l1.drop j) xs u = some (p1, p2)) ∧ 0 ≤ u ∧ u < 8 ∧
          Aside0 (w'.heap[wo.heap.size]? = some (.cells #[v, .int .i64 u] 89 (0, 0))) ∧ Aside0 (w'.ownsRow w.heap.size 5 1 v xs.length (nums .u8 xs)) ∧ Aside0 (Below w.heap.size w w')) (fun v42 w' => l1.length - (intOf v42).toNat)
        case atStart => exact ⟨0, [], 0, .slice none 0 0, rfl, Nat.zero_le _, by simpa using Hp, Int.le_refl _, by omega, ⟨by have := blk_new (wo.drewN nd) (.cells #[.slice none 0 0, .int .i64 0] 89); simpa using this⟩, ⟨own_nil _ _ _ _⟩, ⟨below_alloc (pw_below_drewN HDB.out _) _⟩⟩
        case round =>
          clear Hp
          obtain ⟨j, xs, u, v, rfl, hj, HA, hu0, hu8, HG, HO, HB⟩ := hrel
          by_cases hlt : j < l1.length
          · have hA := HA.out
            rw [drop_at hlt, pks] at hA
            obtain ⟨⟨ys, u2⟩, ht, hA⟩ := Option.bind_eq_some_iff.1 hA
            have Ht := Aside0.mk ht
            clear ht
            by_cases hu2 : 0 ≤ u2 ∧ u2 < 8
            · rw [if_pos hu2] at hA
              have HA' := Aside0.mk hA
              clear hA HA
              obtain ⟨hu20, hu28⟩ := hu2
              obtain ⟨ad, rfl, hcell⟩ := c_at (Kd.C_below HR1.out HB.out) (j : Int) (by omega) (by omega)
              have e : rd l1 (j : Int) = l1.getD j 0 := rfl
              rw [e, show ((j : Int)).toNat = j from rfl] at hcell
              obtain ⟨x, hx⟩ : ∃ x, x = l1.getD j 0 := ⟨_, rfl⟩
              rw [← hx] at hcell Ht
              clear e hx
              have HC := pk_add k wo.heap.size v x a0 xs u ys u2 w wr w.heap.size hu0 hu8 ha00 ha64 HG.out HO.out HB.out HSZ.out Ht.out
              clear HG HO
              go_wp2_with fail
              refine HC.mono ?_
              clear HC
              rintro e w2 ⟨⟨x', rfl⟩, ⟨v2, hg2, ho2⟩, hb2, hs2⟩
              have hg2 := Aside0.mk hg2
              have ho2 := Aside0.mk ho2
              have hb2 := Aside0.mk hb2
              have hs2 := Aside0.mk hs2
              go_wp2
              go_roundw
              case rel => exact ⟨j + 1, ys, u2, v2, by go_num, by omega, HA', hu20, hu28, hg2, ho2, hb2⟩
              case measure => simp [intOf]; omega
            · rw [if_neg hu2] at hA
              exact absurd hA (by simp)
          · have hA := HA.out
            rw [List.drop_eq_nil_of_le (by omega), pks] at hA
            obtain ⟨rfl, rfl⟩ : xs = p1 ∧ u = p2 := by simpa using hA
            clear hA HA
            have c0 : wr.cell? ⟨wo.heap.size, 0, none⟩ = some v := blk_cell HG.out 0
            go_wp2
            go_ret2
            exact ⟨_, rfl, Kd.R_of_own (enc := Value.int .u8) (h1 := fun _ => rfl) HO.out (fun _ _ => trivial), HB.out⟩
      · have h3 := H2.out
        rw [if_neg hs2] at h3
        obtain ⟨rfl, rfl⟩ : ([] : List Int) = r1 ∧ s2 = r2 := by simpa using h3
        clear h3 H2 h
        have hs2b : (s2 != 0) = true := by simpa using hs2
        clear hs2
        go_wp2_with (go_at_call 55; refine (bits_Size.calls k a0 (l1.length : Int) s1 s2 _ Hs.out).mono ?_; rintro e w' ⟨rfl, ⟨nd, rfl⟩⟩)
        go_ret2
        exact ⟨_, rfl, Kd.R_nil _ _ _ _ _, by repeat (first | exact HD.out.below | apply pw_below_drewN)⟩
set_option maxHeartbeats 400000 in
theorem pk_bad (a0 : Int) (A1 : Option Addr) (c1 : Nat) (l1 : List Int) (w : World) (h : a0 < 0 ∨ a0 > 64) :
    Calls Try.prog 41 #[.int .i64 a0, .slice A1 l1.length c1] w fun e w' => e = .returned (.tuple #[.slice none 0 0, .int .i64 2]) ∧ Below w.heap.size w w' := by
  by_cases h0 : a0 < 0
  · clear h
    have h0b := decide_eq_true h0
    go_enter Try.func41, Try.ntmps41
    go_wp2
    go_ret2
    exact ⟨rfl, Below.refl _ _⟩
  · have h1 : 64 < a0 := by omega
    clear h
    have h0b := decide_eq_false h0
    have h1b := decide_eq_true h1
    go_enter Try.func41, Try.ntmps41
    go_wp2
    go_ret2
    exact ⟨rfl, Below.refl _ _⟩
theorem bits_Pack.calls (k : Nat) (a0 : Int) (A1 : Option Addr) (c1 : Nat) (l1 : List Int) (r1 : List Int) (r2 : Int) (w : World) (hr1 : Kd.C (Kd.int .u64) w A1 l1.length l1) (hc1 : l1.length ≤ c1) (h : bits_Pack.f k a0 l1 = some (r1, r2)) :
    Calls Try.prog 41 #[.int .i64 a0, .slice A1 l1.length c1] w fun e w' => ∃ v0_ : Value, e = .returned (.tuple #[v0_, .int .i64 r2]) ∧ Kd.R (Kd.int .u8) 5 w' w.heap.size (fun _ => True) v0_ r1 ∧ Below w.heap.size w w' := by
  unfold bits_Pack.f at h
  by_cases c : a0 < 0
  · rw [if_pos c] at h
    obtain ⟨rfl, rfl⟩ : ([] : List Int) = r1 ∧ 2 = r2 := by simpa using h
    exact (pk_bad a0 A1 c1 l1 w (.inl c)).mono fun e w' ⟨he, hb⟩ => ⟨_, he, Kd.R_nil _ _ _ _ _, hb⟩
  · rw [if_neg c] at h
    by_cases d : a0 > 64
    · rw [if_pos d] at h
      obtain ⟨rfl, rfl⟩ : ([] : List Int) = r1 ∧ 2 = r2 := by simpa using h
      exact (pk_bad a0 A1 c1 l1 w (.inr d)).mono fun e w' ⟨he, hb⟩ => ⟨_, he, Kd.R_nil _ _ _ _ _, hb⟩
    · rw [if_neg d] at h
      exact pk_pack k a0 A1 c1 l1 r1 r2 w hr1 hc1 c d h

end Go.Proofs.Ytpibhiacmceekaa.X
