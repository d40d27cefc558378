/- StringsWrites: texts of this seat in one (wip/merge.py): Bx, Dp, Dl, X7, X8, X6, Dg, Dw, Dh, Ri, Rk, Rt, Db, Rg, Dc, De, Df, X11, X54. -/
import Derived.Laws.BitsLemmas
import Derived.Laws.Bits64
import Derived.IntWalk
import Derived.RowKit
import Derived.Test.YtcdephhplmcmjaaGStringsWrites0
import Derived.Laws.CopyOwn
import Derived.Lib.BitFns
import Derived.Lib.Strings
import Derived.Lib.Slices
import Derived.Lib.Small
import Derived.Lib.Walk
import Derived.Shelf.Sort.So_math_bits_Len64In
import Derived.Lib.AppendZerosOnto
import Derived.Lib.SliceRun
import Derived.StillTailTactics
import Derived.RangeFuncNested
import Derived.RangeFuncBound
import Derived.RangeFuncCalls
import Derived.RangeFuncLeaves
import Derived.RangeFuncFrom
import Derived.RangeFuncWrites
import Derived.RangeFuncBox
import Derived.OrdersIn
import Derived.OwnWalkIn
import Derived.TacticsInMore
import Derived.LoopNIn
import Derived.LoopIn
import Derived.Deep.RegionHeld3
section
namespace Go.Proofs.Ytcdephhplmcmjaa.Bx
open Go.RowKit
theorem u64w (n : Int) : IntKind.u64.wrap n = n % 18446744073709551616 := IntKind.wrap_u64 n
theorem toNat64 (x : Int) : ((BitVec.ofInt 64 x).toNat : Int) = x % 18446744073709551616 := by
  rw [BitVec.toNat_ofInt]; omega
theorem xor_zero_u64 (x : Int) : bits .xor .u64 x 0 = x % 18446744073709551616 := by
  show IntKind.u64.wrap ((BitVec.ofInt 64 x ^^^ BitVec.ofInt 64 0).toNat : Int) = _
  have : BitVec.ofInt 64 0 = 0#64 := rfl
  rw [this, BitVec.xor_zero, toNat64, u64w]; omega
theorem xor_ones_u64 (x : Int) : bits .xor .u64 x 18446744073709551615 = 18446744073709551615 - x % 18446744073709551616 := by
  show IntKind.u64.wrap ((BitVec.ofInt 64 x ^^^ BitVec.ofInt 64 18446744073709551615).toNat : Int) = _
  have e : BitVec.ofInt 64 18446744073709551615 = BitVec.allOnes 64 := by decide
  rw [e, BitVec.xor_allOnes, BitVec.toNat_not, u64w]
  have h := toNat64 x
  have hl := (BitVec.ofInt 64 x).isLt
  omega
theorem xor_zero_i64 (x : Int) : bits .xor .i64 x 0 = wrap64 x := by
  show IntKind.i64.wrap ((BitVec.ofInt 64 x ^^^ BitVec.ofInt 64 0).toNat : Int) = _
  have : BitVec.ofInt 64 0 = 0#64 := rfl
  rw [this, BitVec.xor_zero, toNat64, IntKind.wrap_i64]; unfold wrap64; omega
theorem xor_ones_i64 (x : Int) : bits .xor .i64 x (-1) = wrap64 (-1 - x) := by
  show IntKind.i64.wrap ((BitVec.ofInt 64 x ^^^ BitVec.ofInt 64 (-1)).toNat : Int) = _
  have e : BitVec.ofInt 64 (-1) = BitVec.allOnes 64 := by decide
  rw [e, BitVec.xor_allOnes, BitVec.toNat_not, IntKind.wrap_i64]
  have h := toNat64 x
  have hl := (BitVec.ofInt 64 x).isLt
  unfold wrap64
  omega
theorem wraps_u64 (n : Int) (h₀ : 0 ≤ n) (h₁ : n < 2 ^ 64) : IntKind.u64.wrap n = n := by rw [u64w]; omega
theorem and_one_u64 (x : Int) (h0 : 0 ≤ x) (h1 : x ≤ 18446744073709551615) : bits .and .u64 x 1 = x % 2 :=
  bits_mask .u64 64 (by decide) wraps_u64 1 (by decide) x h0 (by omega)
theorem w64 {a : Int} (h : -9223372036854775808 ≤ a) (h' : a ≤ 9223372036854775807) : wrap64 a = a := by unfold wrap64; omega
theorem u64_tdiv {x : Int} (y : Int) (hx : 0 ≤ x) (h1 : x ≤ 18446744073709551615) (hy : 1 ≤ y) : IntKind.u64.wrap (x.tdiv y) = x / y := IntWalk.u64_quo x y ⟨hx, h1, hy⟩
theorem and_low_i64 (J m k : Nat) (hm : m = 2 ^ k - 1) (hk : k ≤ 62) (hJ : J < 9223372036854775808) : bits .and .i64 (J : Int) (m : Int) = ((J % 2 ^ k : Nat) : Int) := by
  show IntKind.i64.wrap ((BitVec.ofInt 64 (J : Int) &&& BitVec.ofInt 64 (m : Int)).toNat : Int) = _
  have h2 : 2 ^ k ≤ 2 ^ 62 := Nat.pow_le_pow_right (by decide) hk
  have e : (BitVec.ofInt 64 (J : Int) &&& BitVec.ofInt 64 (m : Int)).toNat = J % 2 ^ k := by
    rw [BitVec.toNat_and, BitVec.toNat_ofInt, BitVec.toNat_ofInt]
    have a : ((J : Int) % ((2 ^ 64 : Nat) : Int)).toNat = J := by omega
    have b : ((m : Int) % ((2 ^ 64 : Nat) : Int)).toNat = m := by omega
    rw [a, b, hm, Nat.and_two_pow_sub_one_eq_mod]
  rw [e, IntKind.wrap_i64]
  have := Nat.mod_le J (2 ^ k)
  omega
end Go.Proofs.Ytcdephhplmcmjaa.Bx
end

section
namespace Go.Proofs.Ytcdephhplmcmjaa.X
open Go.RowKit Go.Proofs.YtcdephhplmcmjaaW.PrintWords Go.Proofs.YtcdephhplmcmjaaW.PrintLast Go.Proofs.YtcdephhplmcmjaaW.PrintMore
set_option linter.unusedVariables false
set_option linter.unusedSimpArgs false
def pkBit (bs : List Int) (j : Nat) : Int := wrap64 (bits .and .u8 (bs.getD (j / 8) 0 / 2 ^ (j % 8)) 1)
def pkF (bs : List Int) (s : Nat) : Nat → Int
  | 0 => 0
  | k + 1 => bits .or .i64 (pkF bs s k) (wrap64 (pkBit bs (s + k) * 2 ^ k))
def packedV (bs : List Int) (w : Nat) : List Int := (List.range 32).map fun i => pkF bs (i * w) w
def packedS (w : Nat) (b : List Int) : Except Int (List Int × List Int) := if 4 * w ≤ b.length then .ok (packedV (b.take (4 * w)) w, b.drop (4 * w)) else .error 6
def pkRow (bs : List Int) (w i : Nat) (x : Int) : List Int := (List.range i).map (fun i => pkF bs (i * w) w) ++ x :: List.replicate (31 - i) 0
theorem pkRow_at (bs : List Int) (w i : Nat) (x : Int) (h : i < 32) : (pkRow bs w i x)[i]? = some x := by simp [pkRow]
theorem pkRow_set (bs : List Int) (w i : Nat) (x y : Int) : (pkRow bs w i x).set i y = pkRow bs w i y := by
  unfold pkRow
  rw [List.set_append]
  simp
theorem pkRow_next (bs : List Int) (w i : Nat) (h : i < 31) : pkRow bs w i (pkF bs (i * w) w) = pkRow bs w (i + 1) 0 := by
  unfold pkRow
  rw [List.range_succ, List.map_append, List.append_assoc, show 31 - i = (31 - (i + 1)) + 1 by omega, List.replicate_succ]
  rfl
theorem pkRow_last (bs : List Int) (w : Nat) : pkRow bs w 31 (pkF bs (31 * w) w) = packedV bs w := by
  unfold pkRow packedV
  rw [show (32 : Nat) = 31 + 1 by rfl, List.range_succ, List.map_append]
  rfl
def arrV (l : List Int) : Value := .agg (l.map (Value.int .i64)).toArray
theorem pk_grown {W W' : World} {g ga o : Nat} (h : W.grownBy W' (some g)) (hga : W.heap.size ≤ ga) (v : Value) : W.grownBy (W'.setCell ⟨ga, o, none⟩ v) (some g) :=
  ⟨h.os, h.tape, h.output, by show W.heap.size ≤ (W'.heap.modify _ _).size; rw [Array.size_modify]; exact h.size, fun k hk hne => (Below.heap_setCell W' ⟨ga, o, none⟩ v k (by simp only []; omega)).trans (h.block k hk hne)⟩
theorem wp_named {P : Program} {Q : Exit → Act → World → Prop} {a : Act} {w : World} {c : Code} (h : ∀ W, W = w → c.wp P Q a W) : c.wp P Q a w := h _ rfl
def pkAt (bs : List Int) (w i : Nat) : List Int := if i < 32 then pkRow bs w i (pkF bs (i * w) 0) else packedV bs w
theorem calls_named {P : Program} {f : FuncId} {args : Array Value} {w : World} {R : Ending → World → Prop} (h : ∀ W, W = w → Calls P f args W R) : Calls P f args w R := h _ rfl
set_option maxRecDepth 100000 in
set_option maxHeartbeats 4000000 in
theorem dr_packed (w0 : World) (g : Nat) (b : List Int) (w : Nat) (W : World) (hI : RdI w0 g b W) (hw : w ≤ 64) :
    Calls Try.prog 82 #[.pointer (some ⟨g, 0, none⟩), .int .i64 (w : Int)] W (RdO w0 g W arrV (packedS w b)) := by
  have hlt := hI.lt
  have f1 : IntKind.i64.wrap ((w : Int) * 32) = (w : Int) * 32 := IntWalk.i64_in _ (by omega)
  have en : ((w : Int) * 32 / 8) = 4 * (w : Int) := by omega
  have en2 : ((w : Int) * 32 / 8).toNat = 4 * w := by omega
  by_cases hl : 4 * w ≤ b.length
  · have HT := Aside0.mk (fun Wz (h : RdI w0 g b Wz) => dr_take_ok w0 g b ((w : Int) * 32 / 8) Wz h (by omega) (by omega))
    have hres : packedS w b = .ok (packedV (b.take (4 * w)) w, b.drop (4 * w)) := by unfold packedS; rw [if_pos hl]
    rw [hres]
    have HI := Aside0.mk hI
    have HLT := Aside0.mk hlt
    have EN := Aside0.mk en2
    have hbl : (b.take (4 * w)).length = 4 * w := by rw [List.length_take]; omega
    obtain ⟨bs, hbs⟩ : ∃ bs, bs = b.take (4 * w) := ⟨_, rfl⟩
    rw [← hbs]
    rw [← hbs] at hbl
    have HBS := Aside0.mk hbs
    have HBL := Aside0.mk hbl
    have HW := Aside0.mk hw
    clear hres hI hl hlt en en2 hbs hbl
    go_enter Try.func82, Try.ntmps82
    go_wp2_with fail
    refine calls_named fun Wa hWa => ?_
    have hIa : RdI w0 g b Wa := by rw [hWa]; exact HI.out.keep (below_alloc (Below.refl _ _) _)
    have hra : Wa.heap[W.heap.size]? = some (.cells #[Value.int IntKind.i64 0, Value.int IntKind.i64 0, Value.int IntKind.i64 0, Value.int IntKind.i64 0, Value.int IntKind.i64 0, Value.int IntKind.i64 0, Value.int IntKind.i64 0, Value.int IntKind.i64 0, Value.int IntKind.i64 0, Value.int IntKind.i64 0, Value.int IntKind.i64 0, Value.int IntKind.i64 0, Value.int IntKind.i64 0, Value.int IntKind.i64 0, Value.int IntKind.i64 0, Value.int IntKind.i64 0, Value.int IntKind.i64 0, Value.int IntKind.i64 0, Value.int IntKind.i64 0, Value.int IntKind.i64 0, Value.int IntKind.i64 0, Value.int IntKind.i64 0, Value.int IntKind.i64 0, Value.int IntKind.i64 0, Value.int IntKind.i64 0, Value.int IntKind.i64 0, Value.int IntKind.i64 0, Value.int IntKind.i64 0, Value.int IntKind.i64 0, Value.int IntKind.i64 0, Value.int IntKind.i64 0, Value.int IntKind.i64 0] 119 (0, 0)) := by rw [hWa]; exact blk_new _ _
    have hba : Below W.heap.size W Wa := by rw [hWa]; exact below_alloc (Below.refl _ _) _
    clear hWa
    refine (HT.out Wa hIa).mono ?_
    rintro e W1 ⟨A, cc, rfl, hC, hcc, hI1, hg1⟩
    rw [EN.out, ← HBS.out] at hC hcc
    rw [EN.out, ← HBS.out, HBL.out]
    rw [EN.out] at hI1
    rw [HBL.out] at hC hcc
    have hr1 : W1.heap[W.heap.size]? = some (.cells #[Value.int IntKind.i64 0, Value.int IntKind.i64 0, Value.int IntKind.i64 0, Value.int IntKind.i64 0, Value.int IntKind.i64 0, Value.int IntKind.i64 0, Value.int IntKind.i64 0, Value.int IntKind.i64 0, Value.int IntKind.i64 0, Value.int IntKind.i64 0, Value.int IntKind.i64 0, Value.int IntKind.i64 0, Value.int IntKind.i64 0, Value.int IntKind.i64 0, Value.int IntKind.i64 0, Value.int IntKind.i64 0, Value.int IntKind.i64 0, Value.int IntKind.i64 0, Value.int IntKind.i64 0, Value.int IntKind.i64 0, Value.int IntKind.i64 0, Value.int IntKind.i64 0, Value.int IntKind.i64 0, Value.int IntKind.i64 0, Value.int IntKind.i64 0, Value.int IntKind.i64 0, Value.int IntKind.i64 0, Value.int IntKind.i64 0, Value.int IntKind.i64 0, Value.int IntKind.i64 0, Value.int IntKind.i64 0, Value.int IntKind.i64 0] 119 (0, 0)) := (hg1.block _ (blk_lt hra) (fun e => by have := HLT.out; simp only [Option.some.injEq] at e; omega)).trans hra
    have HR1 := Aside0.mk hr1
    have HG1 := Aside0.mk (grown_trans (grown_below hba) hg1)
    have HI1 := Aside0.mk hI1
    have HC := Aside0.mk hC
    have HS1 := Aside0.mk (show W.heap.size + 1 ≤ W1.heap.size from Nat.le_trans (blk_lt hra) hg1.size)
    clear hC hcc hI1 hg1 hr1 hra hba hIa HT HI f1
    go_wp2
    refine wp_named fun W2 hW2 => ?_
    obtain ⟨ga, hga⟩ : ∃ ga, ga = W1.heap.size := ⟨_, rfl⟩
    rw [← hga]
    have HR2 := Aside0.mk (show W2.heap[W.heap.size]? = some (.cells #[Value.int IntKind.i64 0, Value.int IntKind.i64 0, Value.int IntKind.i64 0, Value.int IntKind.i64 0, Value.int IntKind.i64 0, Value.int IntKind.i64 0, Value.int IntKind.i64 0, Value.int IntKind.i64 0, Value.int IntKind.i64 0, Value.int IntKind.i64 0, Value.int IntKind.i64 0, Value.int IntKind.i64 0, Value.int IntKind.i64 0, Value.int IntKind.i64 0, Value.int IntKind.i64 0, Value.int IntKind.i64 0, Value.int IntKind.i64 0, Value.int IntKind.i64 0, Value.int IntKind.i64 0, Value.int IntKind.i64 0, Value.int IntKind.i64 0, Value.int IntKind.i64 0, Value.int IntKind.i64 0, Value.int IntKind.i64 0, Value.int IntKind.i64 0, Value.int IntKind.i64 0, Value.int IntKind.i64 0, Value.int IntKind.i64 0, Value.int IntKind.i64 0, Value.int IntKind.i64 0, Value.int IntKind.i64 0, Value.int IntKind.i64 0] 119 (0, 0)) from (by rw [hW2]; exact blk_alloc HR1.out _))
    have HA2 := Aside0.mk (show W2.heap[ga]? = some (.cells ((pkAt bs w 0).map (Value.int .i64)).toArray 119 (0, 0)) from (by rw [hW2, hga]; exact blk_new _ _))
    have HI2 := Aside0.mk (show RdI w0 g (b.drop (4 * w)) W2 from (by rw [hW2]; exact HI1.out.keep (below_alloc (Below.refl _ _) _)))
    have HG2 := Aside0.mk (show W.grownBy W2 (some g) from (by rw [hW2]; exact grown_trans HG1.out (grown_below (below_alloc (Below.refl _ _) _))))
    have HGA := Aside0.mk (show g < ga ∧ W.heap.size < ga from (by have := HLT.out; have := HS1.out; omega))
    have hu92 := Try.underlying119
    clear hW2 hga HR1 HI1 HG1 HS1
    go_loopw [7, 15] (fun v7 v15 wr => ∃ i : Nat, v7 = .int .i64 ((i * w : Nat) : Int) ∧ v15 = .int .i64 i ∧ i ≤ 32 ∧ Aside0 (wr.heap[ga]? = some (.cells ((pkAt bs w i).map (Value.int .i64)).toArray 119 (0, 0))) ∧ Aside0 (RdI w0 g (b.drop (4 * w)) wr) ∧ Aside0 (W.grownBy wr (some g)) ∧ Aside0 (wr.heap[W.heap.size]? = some (.cells #[Value.int IntKind.i64 0, Value.int IntKind.i64 0, Value.int IntKind.i64 0, Value.int IntKind.i64 0, Value.int IntKind.i64 0, Value.int IntKind.i64 0, Value.int IntKind.i64 0, Value.int IntKind.i64 0, Value.int IntKind.i64 0, Value.int IntKind.i64 0, Value.int IntKind.i64 0, Value.int IntKind.i64 0, Value.int IntKind.i64 0, Value.int IntKind.i64 0, Value.int IntKind.i64 0, Value.int IntKind.i64 0, Value.int IntKind.i64 0, Value.int IntKind.i64 0, Value.int IntKind.i64 0, Value.int IntKind.i64 0, Value.int IntKind.i64 0, Value.int IntKind.i64 0, Value.int IntKind.i64 0, Value.int IntKind.i64 0, Value.int IntKind.i64 0, Value.int IntKind.i64 0, Value.int IntKind.i64 0, Value.int IntKind.i64 0, Value.int IntKind.i64 0, Value.int IntKind.i64 0, Value.int IntKind.i64 0, Value.int IntKind.i64 0] 119 (0, 0)))) (fun _ v15 _ => 32 - (intOf v15).toNat)
    case atStart => exact ⟨0, by simp, rfl, by omega, HA2, HI2, HG2, HR2⟩
    case round =>
      clear HA2 HI2 HG2 HR2
      obtain ⟨i, rfl, rfl, hi, HA, HI, HG, HR⟩ := hrel
      by_cases hi2 : i < 32
      · have q1 : decide ((i : Int) < 32) = true := decide_eq_true (by omega)
        have HAx := Aside0.mk (show wr.heap[ga]? = some (.cells ((pkRow bs w i (pkF bs (i * w) 0)).map (Value.int .i64)).toArray 119 (0, 0)) from (by have := HA.out; rwa [pkAt, if_pos hi2] at this))
        clear HA
        go_wp2
        obtain ⟨wo, hwo⟩ : ∃ wo, wo = wr := ⟨_, rfl⟩
        rw [← hwo] at HAx HI HG HR ⊢
        clear hwo
        go_loopw [7, 19] (fun v7 v19 wr => ∃ k : Nat, v7 = .int .i64 ((i * w + k : Nat) : Int) ∧ v19 = .int .i64 k ∧ k ≤ w ∧ Aside0 (wr.heap[ga]? = some (.cells ((pkRow bs w i (pkF bs (i * w) k)).map (Value.int .i64)).toArray 119 (0, 0))) ∧ Aside0 (RdI w0 g (b.drop (4 * w)) wr) ∧ Aside0 (W.grownBy wr (some g)) ∧ Aside0 (wr.heap[W.heap.size]? = some (.cells #[Value.int IntKind.i64 0, Value.int IntKind.i64 0, Value.int IntKind.i64 0, Value.int IntKind.i64 0, Value.int IntKind.i64 0, Value.int IntKind.i64 0, Value.int IntKind.i64 0, Value.int IntKind.i64 0, Value.int IntKind.i64 0, Value.int IntKind.i64 0, Value.int IntKind.i64 0, Value.int IntKind.i64 0, Value.int IntKind.i64 0, Value.int IntKind.i64 0, Value.int IntKind.i64 0, Value.int IntKind.i64 0, Value.int IntKind.i64 0, Value.int IntKind.i64 0, Value.int IntKind.i64 0, Value.int IntKind.i64 0, Value.int IntKind.i64 0, Value.int IntKind.i64 0, Value.int IntKind.i64 0, Value.int IntKind.i64 0, Value.int IntKind.i64 0, Value.int IntKind.i64 0, Value.int IntKind.i64 0, Value.int IntKind.i64 0, Value.int IntKind.i64 0, Value.int IntKind.i64 0, Value.int IntKind.i64 0, Value.int IntKind.i64 0] 119 (0, 0)))) (fun _ v19 _ => w - (intOf v19).toNat)
        case atStart => exact ⟨0, rfl, rfl, by omega, HAx, HI, HG, HR⟩
        case round =>
          clear HAx HI HG HR
          obtain ⟨k, rfl, rfl, hk, HA, HI, HG, HR⟩ := hrel
          by_cases hk2 : k < w
          · have q2 : decide ((k : Int) < (w : Int)) = true := decide_eq_true (by omega)
            obtain ⟨J, hJ⟩ : ∃ J, J = i * w + k := ⟨_, rfl⟩
            rw [← hJ]
            have hJ2 : J < 8 * (4 * w) := by
              have : i * w ≤ 31 * w := Nat.mul_le_mul_right _ (by omega)
              omega
            obtain ⟨ad, had, hcell⟩ := c_at (Kd.C_below HC.out (show Below w0.heap.size w0 wr from (by obtain ⟨_, _, _, _, _, h, _⟩ := HI.out; exact h))) ((J / 8 : Nat) : Int) (by omega) (by omega)
            subst had
            obtain ⟨q, hq⟩ : ∃ q, q = J / 8 := ⟨_, rfl⟩
            obtain ⟨t, ht⟩ : ∃ t, t = J % 8 := ⟨_, rfl⟩
            obtain ⟨y, hy⟩ : ∃ y, y = bs.getD q 0 := ⟨_, rfl⟩
            rw [← hq, show rd bs (q : Int) = bs.getD q 0 from rfl, ← hy, show ((q : Int)).toNat = q from rfl] at hcell
            have f3 : (J : Int) / 8 = (q : Int) := by omega
            have f4 : (J : Int) % 8 = (t : Int) := by omega
            have f5 : (0 : Int) ≤ (q : Int) := by omega
            have f6 : (q : Int) < ((4 * w : Nat) : Int) := by omega
            have f6' : (q : Int) < 4 * (w : Int) := by omega
            have f7 : bits .and .i64 (J : Int) 7 = (t : Int) := by rw [ht]; exact Bx.and_low_i64 J 7 3 (by decide) (by decide) (by have := HW.out; omega)
            have f8 : (0 : Int) ≤ (t : Int) := by omega
            have f9 : ((t : Int)).toNat = t := rfl
            have f10 : ((q : Int)).toNat = q := rfl
            have f11 : (0 : Int) ≤ (i : Int) := by omega
            have f12 : (i : Int) < 32 := by omega
            have f13 : ((i : Int)).toNat = i := rfl
            have f14 : (0 : Int) ≤ (k : Int) := by omega
            have f15 : ((k : Int)).toNat = k := rfl
            have f16 : min k 64 = k := by have := HW.out; omega
            have f17 : min t 8 = t := by omega
            have HQ := Aside0.mk (And.intro hq (And.intro ht (And.intro hy hJ)))
            have Hk := Aside0.mk hk2
            have Hi := Aside0.mk hi2
            have cA : wr.cell? ⟨ga, i, none⟩ = some (.int .i64 (pkF bs (i * w) k)) := by
              rw [blk_cell HA.out i]
              simp [pkRow_at bs w i _ hi2]
            have fA : wr.frozen? ⟨ga, i, none⟩ = false := blk_frozen HA.out i
            obtain ⟨x, hx⟩ : ∃ x, x = pkF bs (i * w) k := ⟨_, rfl⟩
            rw [← hx] at cA
            have HX := Aside0.mk hx
            clear hq ht hy hJ hJ2 hx hi2 hk hi
            go_wp2
            refine region_tail 17 (by kernel_rfl) (by kernel_rfl) (fun w3 hw3 => ?_)
            simp only [List.take_succ_cons, List.take_zero, List.drop_succ_cons, List.drop_zero]
            have c1 : w3.cell? ⟨ga, i, none⟩ = some (.int .i64 x) := by rw [hw3]; exact cA
            have c2 : w3.cell? (ad.add q) = some (.int .u8 y) := by rw [hw3]; exact hcell
            have c3 : w3.frozen? ⟨ga, i, none⟩ = false := by rw [hw3]; exact fA
            have HA3 := Aside0.mk (show w3.heap[ga]? = some (.cells ((pkRow bs w i x).map (Value.int .i64)).toArray 119 (0, 0)) from (by rw [hw3, HX.out]; exact HA.out))
            have HI3 := Aside0.mk (show RdI w0 g (b.drop (4 * w)) w3 from (by rw [hw3]; exact HI.out.keep (below_drew1 (Below.refl _ _))))
            have HG3 := Aside0.mk (show W.grownBy w3 (some g) from (by rw [hw3]; exact grown_trans HG.out (grown_below (below_drew1 (Below.refl _ _)))))
            have HR3 := Aside0.mk (show w3.heap[W.heap.size]? = some (.cells #[Value.int IntKind.i64 0, Value.int IntKind.i64 0, Value.int IntKind.i64 0, Value.int IntKind.i64 0, Value.int IntKind.i64 0, Value.int IntKind.i64 0, Value.int IntKind.i64 0, Value.int IntKind.i64 0, Value.int IntKind.i64 0, Value.int IntKind.i64 0, Value.int IntKind.i64 0, Value.int IntKind.i64 0, Value.int IntKind.i64 0, Value.int IntKind.i64 0, Value.int IntKind.i64 0, Value.int IntKind.i64 0, Value.int IntKind.i64 0, Value.int IntKind.i64 0, Value.int IntKind.i64 0, Value.int IntKind.i64 0, Value.int IntKind.i64 0, Value.int IntKind.i64 0, Value.int IntKind.i64 0, Value.int IntKind.i64 0, Value.int IntKind.i64 0, Value.int IntKind.i64 0, Value.int IntKind.i64 0, Value.int IntKind.i64 0, Value.int IntKind.i64 0, Value.int IntKind.i64 0, Value.int IntKind.i64 0, Value.int IntKind.i64 0] 119 (0, 0)) from (by rw [hw3]; exact HR.out))
            clear hw3 HA HI HG HR cA fA hcell
            repeat still_step
            refine wpStill_nil ?_
            clear f3 f4 f5 f6 f6' f7 f8 f9 f10 f16 f17 c2
            go_wp2
            go_roundw
            case rel =>
              have hJ := HQ.out.2.2.2
              have hval : bits .or .i64 x (wrap64 (wrap64 (bits .and .u8 (y / 2 ^ t) 1) * 2 ^ k)) = pkF bs (i * w) (k + 1) := by
                rw [pkF, ← HX.out, pkBit, ← hJ, ← HQ.out.1, ← HQ.out.2.1, ← HQ.out.2.2.1]
              rw [hval]
              refine ⟨k + 1, ?_, by go_num, by omega, ⟨?_⟩, ⟨?_⟩, ⟨?_⟩, ⟨?_⟩⟩
              · rw [show wrap64 ((J : Int) + 1) = (J : Int) + 1 from by have := HW.out; have : i * w ≤ 31 * w := Nat.mul_le_mul_right _ (by have := Hi.out; omega); exact Bx.w64 (by omega) (by omega)]
                congr 1; omega
              · have := blk_set HA3.out i (.int .i64 (pkF bs (i * w) (k + 1)))
                rw [this]
                congr 2
                rw [← pkRow_set bs w i x (pkF bs (i * w) (k + 1))]
                simp [List.map_set]
              · obtain ⟨A, c, g1, g2, g3, g4, g5⟩ := HI3.out
                exact ⟨A, c, blk_far g1 (by have := HGA.out; simp only []; omega) _, g2, g3, g4.setCell (by have := HGA.out; simp only []; omega) _, g5⟩
              · exact pk_grown HG3.out (by have := HGA.out; omega) _
              · exact blk_far HR3.out (by have := HGA.out; simp only []; omega) _
            case measure => simp [intOf]; omega
          · have q2 : decide ((k : Int) < (w : Int)) = false := decide_eq_false (by omega)
            obtain rfl : k = w := by omega
            go_wp2
            go_roundw
            case rel =>
              refine ⟨i + 1, by congr 1; rw [Nat.add_mul]; omega, by go_num, by omega, ⟨?_⟩, HI, HG, HR⟩
              have h := HA.out
              unfold pkAt
              by_cases hl : i + 1 < 32
              · rw [if_pos hl]
                rw [pkRow_next bs k i (by omega)] at h
                exact h
              · rw [if_neg hl]
                obtain rfl : i = 31 := by omega
                rw [pkRow_last] at h
                exact h
            case measure => simp [intOf]; omega
      · obtain rfl : i = 32 := by omega
        have HA2 := Aside0.mk (show wr.heap[ga]? = some (.cells ((packedV bs w).map (Value.int .i64)).toArray 119 (0, 0)) from HA.out)
        clear HA
        obtain ⟨cs, hcs⟩ : ∃ cs, cs = ((packedV bs w).map (Value.int .i64)).toArray := ⟨_, rfl⟩
        rw [← hcs] at HA2
        have hsize : cs.size = 32 := by simp [hcs, packedV]
        have hi92 : (Try.prog.info? 119).map (·.size) = some cs.size := by rw [hsize]; kernel_rfl
        have h1c : cs.all (·.oneCell') = true := by simp [hcs, Value.oneCell']
        have HCS := Aside0.mk hcs
        have HSZ := Aside0.mk hsize
        have H92 := Aside0.mk hi92
        have H1C := Aside0.mk h1c
        clear hcs hsize hi92 h1c
        go_wp2_with (first | (refine wpList_load_row rfl _ _ rfl ga rfl 119 cs (0, 0) _ HA2.out hu92 rfl H92.out ?_) | (refine wpList_store_row rfl 119 (.tmp 4) (.tmp 43) rfl W.heap.size cs rfl rfl 119 #[Value.int IntKind.i64 0, Value.int IntKind.i64 0, Value.int IntKind.i64 0, Value.int IntKind.i64 0, Value.int IntKind.i64 0, Value.int IntKind.i64 0, Value.int IntKind.i64 0, Value.int IntKind.i64 0, Value.int IntKind.i64 0, Value.int IntKind.i64 0, Value.int IntKind.i64 0, Value.int IntKind.i64 0, Value.int IntKind.i64 0, Value.int IntKind.i64 0, Value.int IntKind.i64 0, Value.int IntKind.i64 0, Value.int IntKind.i64 0, Value.int IntKind.i64 0, Value.int IntKind.i64 0, Value.int IntKind.i64 0, Value.int IntKind.i64 0, Value.int IntKind.i64 0, Value.int IntKind.i64 0, Value.int IntKind.i64 0, Value.int IntKind.i64 0, Value.int IntKind.i64 0, Value.int IntKind.i64 0, Value.int IntKind.i64 0, Value.int IntKind.i64 0, Value.int IntKind.i64 0, Value.int IntKind.i64 0, Value.int IntKind.i64 0] HR.out H92.out (by rw [HSZ.out]; rfl) H1C.out ?_))
        refine bodyPost_ret (results_cell_row rfl _ _ W.heap.size 119 cs (0, 0) _ rfl (setRow_heap _ _ _ _ _ _ HR.out) hu92 rfl H92.out) rfl ?_
        obtain ⟨A5, c5, g1, g2, g3, g4, g5⟩ := HI.out
        have hne := HLT.out
        have hset : ∀ j, j ≠ W.heap.size → (wr.setRow W.heap.size cs).heap[j]? = wr.heap[j]? := fun j hj => setRow_other wr W.heap.size j cs (by omega)
        refine ⟨below_setRow g4 (by omega) cs, ⟨HG.out.os, HG.out.tape, HG.out.output, ?_, fun j hj hne => (hset j (by omega)).trans (HG.out.block j hj hne)⟩, ?_, ?_⟩
        · show W.heap.size ≤ (wr.setRow W.heap.size cs).heap.size
          have := HG.out.size
          simpa [World.setRow] using this
        · rw [HCS.out]; rfl
        · exact ⟨A5, c5, (hset g (by omega)).trans g1, g2, g3, below_setRow g4 (by omega) cs, g5⟩
  · have HT := Aside0.mk (fun Wz (h : RdI w0 g b Wz) => dr_take_no w0 g b ((w : Int) * 32 / 8) Wz h (by omega))
    have hres : packedS w b = .error 6 := by unfold packedS; rw [if_neg hl]
    rw [hres]
    have HI := Aside0.mk hI
    clear hres hI hl en en2
    go_enter Try.func82, Try.ntmps82
    go_wp2_with fail
    refine calls_named fun Wa hWa => ?_
    have hIa : RdI w0 g b Wa := by rw [hWa]; exact HI.out.keep (below_alloc (Below.refl _ _) _)
    have hg : W.grownBy Wa (some g) := by rw [hWa]; exact grown_below (below_alloc (Below.refl _ _) _)
    clear hWa
    refine (HT.out Wa hIa).mono ?_
    rintro e W1 ⟨rfl, rfl⟩
    exact ⟨rfl, by obtain ⟨_, _, _, _, _, h, _⟩ := hIa; exact h, hg, rfl⟩
end Go.Proofs.Ytcdephhplmcmjaa.X
end

section
namespace Go.Proofs.Ytcdephhplmcmjaa.X
open Go.RowKit Go.Proofs.YtcdephhplmcmjaaW.PrintWords Go.Proofs.YtcdephhplmcmjaaW.PrintLast Go.Proofs.YtcdephhplmcmjaaW.PrintMore
set_option linter.unusedVariables false
set_option linter.unusedSimpArgs false
def andS {α β : Type} (r : Except Int (α × List Int)) (k : α → List Int → Except Int (β × List Int)) : Except Int (β × List Int) :=
  match r with
  | .error x => .error x
  | .ok (v, b) => k v b
theorem andS_ok {α β : Type} (v : α) (b : List Int) (k : α → List Int → Except Int (β × List Int)) : andS (.ok (v, b)) k = k v b := rfl
theorem andS_err {α β : Type} (x : Int) (k : α → List Int → Except Int (β × List Int)) : andS (.error x) k = .error x := rfl
def widS (n fr : Int) : Nat → Nat → List Int → Except Int (List Int × List Int)
  | 0, _, b => .ok ([], b)
  | k + 1, i, b => andS (byteS b) fun c b => if c ≤ 64 ∧ (c = 0 ∨ fr + 32 * i < n) then andS (widS n fr k (i + 1) b) fun ws b => .ok (c :: ws, b) else .error 8
def addS (n : Int) (least : Int) : List Int → List Int → List Int
  | [], l => l
  | x :: xs, l => if (l.length : Int) = n then l else addS n least xs (l ++ [wrap64 (rd l (l.length - 1) + wrap64 (least + x))])
def partsS (n fr least : Int) : List Int → Nat → List Int → List Int → Except Int (List Int × List Int)
  | [], _, l, b => .ok (l, b)
  | w :: ws, i, l, b => if fr + 32 * i ≥ n then .ok (l, b) else andS (packedS w.toNat b) fun xs b => partsS n fr least ws (i + 1) (addS n least xs l) b
def loopS (n : Int) : Nat → Int → List Int → List Int → Except Int (List Int × List Int)
  | 0, _, l, b => .ok (l, b)
  | k + 1, fr, l, b => if fr < n then andS (mapS sgnV (numS 0 0 b)) fun least b => andS (widS n fr 4 0 b) fun ws b => andS (partsS n fr least ws 0 l b) fun l b => loopS n k (fr + 128) l b else .ok (l, b)
def tailS (b : List Int) : Except Int (List Int × List Int) :=
  andS (numS 0 0 b) fun many b => if many ≤ 65536 then andS (mapS sgnV (numS 0 0 b)) fun first b => if many > 0 ∨ first = 0 then (if many = 0 then .ok ([], b) else loopS many 513 1 [first] b) else .error 8 else .error 8
def wantS (v : Int) (b : List Int) (k : List Int → Except Int (List Int × List Int)) : Except Int (List Int × List Int) := andS (numS 0 0 b) fun x b => if x = v then k b else .error 8
def listS (b : List Int) : Except Int (List Int × List Int) := wantS 128 b fun b => wantS 4 b tailS
theorem numN_range (n c : Int) (sh : Nat) : 0 ≤ numN n c sh ∧ numN n c sh < 18446744073709551616 := by
  unfold numN
  show 0 ≤ IntKind.u64.wrap _ ∧ IntKind.u64.wrap _ < _
  rw [IntKind.wrap_u64]
  omega
theorem numS_range : ∀ (b : List Int) (sh : Nat) (n v : Int) (r : List Int), numS sh n b = .ok (v, r) → 0 ≤ v ∧ v < 18446744073709551616
  | [], sh, n, v, r, h => by simp [numS] at h
  | c :: b, sh, n, v, r, h => by
    rw [numS] at h
    split at h
    · split at h
      · obtain ⟨rfl, rfl⟩ : numN n c sh = v ∧ b = r := by simpa using h
        exact numN_range _ _ _
      · exact numS_range b _ _ _ _ h
    · simp at h
theorem byteS_ok {b : List Int} {c : Int} {r : List Int} (h : byteS b = .ok (c, r)) : b = c :: r := by
  cases b with
  | nil => simp [byteS] at h
  | cons x y => obtain ⟨rfl, rfl⟩ : x = c ∧ y = r := by simpa [byteS] using h
                rfl
theorem packedV_length (bs : List Int) (w : Nat) : (packedV bs w).length = 32 := by simp [packedV]
theorem addS_length (n least : Int) : ∀ (xs l : List Int), (l.length : Int) ≤ n → (addS n least xs l).length ≤ n ∧ l.length ≤ (addS n least xs l).length
  | [], l, h => by simp [addS]; exact h
  | x :: xs, l, h => by
    rw [addS]
    split
    · exact ⟨h, Nat.le_refl _⟩
    · have := addS_length n least xs (l ++ [wrap64 (rd l (l.length - 1) + wrap64 (least + x))]) (by simp; omega)
      simp at this
      omega
def DlO (w0 : World) (g : Nat) (W : World) (res : Except Int (List Int × List Int)) (e : Ending) (W' : World) : Prop :=
  Below w0.heap.size w0 W' ∧ W.grownBy W' (some g) ∧ match res with
    | .ok (l, r) => ∃ lv, e = .returned lv ∧ RdI w0 g r W' ∧ W'.ownsRow W.heap.size 2 1 lv l.length (nums .i64 l)
    | .error x => e = .panicked (failP x)
theorem own_one {W : World} {base : Nat} (hb : base ≤ W.heap.size) (x : Int) (e : TypeId) : (W.alloc (.cells #[.int .i64 x] e)).ownsRow base e 1 (.slice (some ⟨W.heap.size, 0, none⟩) 1 1) [x].length (nums .i64 [x]) :=
  ⟨rfl, .inr ⟨W.heap.size, 1, #[.int .i64 x], rfl, hb, blk_new _ _, Nat.le_refl _, by decide, rfl, rfl⟩⟩
theorem own_far {W W' : World} {base g n : Nat} {e : TypeId} {v : Value} {xs : List Value} (h : W.ownsRow base e 1 v n xs) (hg : W.grownBy W' (some g)) (hlt : g < base) : W'.ownsRow base e 1 v n xs := by
  refine own_other h hg ?_
  obtain ⟨_, ⟨rfl, _⟩ | ⟨b, cap, cur, rfl, hb, _⟩⟩ := h
  · left; rfl
  · right
    simp only [Value.ownBlock, ne_eq, Option.some.injEq]
    omega
theorem own_formD {w : World} {base n : Nat} {e : TypeId} {size : Nat} {v : Value} {xs : List Value} (h : w.ownsRow base e size v n xs) : ∃ A c, v = .slice A n c := by
  obtain ⟨_, ⟨rfl, rfl⟩ | ⟨g, cap, cur, rfl, _⟩⟩ := h
  · exact ⟨_, _, rfl⟩
  · exact ⟨_, _, rfl⟩
theorem row_at (ws : List Int) (i n : Nat) (h : ws.length = i) (hi : i < n) : ((ws ++ List.replicate (n - i) 0).map (Value.int .i64)).toArray[i]? = some (.int .i64 0) := by
  subst h
  simp only [List.getElem?_toArray, List.getElem?_map]
  rw [List.getElem?_append_right (Nat.le_refl _), Nat.sub_self, List.getElem?_replicate, if_pos (by omega)]
  rfl
theorem assocS {α β γ : Type} {res : Except Int (γ × List Int)} {r : Except Int (α × List Int)} {k : α → List Int → Except Int (β × List Int)} {m : β → List Int → Except Int (γ × List Int)} (h : res = andS (andS r k) m) : res = andS r fun v b => andS (k v b) m := by
  rw [h]
  cases r with
  | error x => rfl
  | ok v => rfl
theorem packed_len {w : Nat} {b xs r : List Int} (h : packedS w b = .ok (xs, r)) : xs.length = 32 := by
  unfold packedS at h
  split at h
  · obtain ⟨rfl, _⟩ : packedV (b.take (4 * w)) w = xs ∧ b.drop (4 * w) = r := by simpa using h
    exact packedV_length _ _
  · simp at h
theorem dl_info : (Try.prog.info? 2).map (fun i => (i.zero, i.size, i.bytes)) = some (some (.int .i64 0), 1, 8) := by kernel_rfl
theorem RdI.keepB {w0 A B : World} {g n : Nat} {b : List Int} (h : RdI w0 g b A) (hb : Below n A B) (hg : g < n) : RdI w0 g b B := by
  obtain ⟨P, c, h1, h2, h3, h4, h5, h6⟩ := h
  exact ⟨P, c, (hb.block g hg).trans h1, h2, h3, h4.trans (hb.mono (by omega)), h5, h6⟩
theorem grown_belowN {W A B : World} {g : Nat} (h : W.grownBy A (some g)) (hb : Below W.heap.size A B) : W.grownBy B (some g) :=
  ⟨hb.os.trans h.os, hb.tape.trans h.tape, hb.output.trans h.output, Nat.le_trans h.size hb.size, fun k hk hne => (hb.block k hk).trans (h.block k hk hne)⟩
theorem oper_of_list {P : Program} {ops : Array Oper} {o : Oper} {a : Act} {w : World} {K : Act → World → Prop} {Q : Exit → Act → World → Prop} (hq : ¬ LetsOut Q) (h : wpList P ops (Exit.then K Q) [o] a w) :
    if Region.wanted o (yielded ops a.tmps) = true then Oper.wp P o a w K Q else K (a.put o.dst undef) w := by
  unfold wpList at h
  by_cases hw : Region.wanted o (yielded ops a.tmps) = true
  · rw [if_pos hw] at h ⊢
    replace h := h.resolve_right (fun x => hq x.2)
    unfold Oper.wp at h ⊢
    revert h
    generalize (execOp a.eval o).run P w = r
    cases r with
    | ok x w' => cases x <;> exact fun h => h
    | halt x w' => cases x <;> exact fun h => h
  · rw [if_neg hw] at h ⊢
    exact h
theorem any_named {P : Program} {md : Region.Mode} {ops : Array Oper} {Q : Exit → Act → World → Prop} {n : Nat} {listed : Array Bool} {a : Act} {w : World} (h : ∀ W, W = w.drew → wpAny P md ops Q n listed a W) : wpAny P md ops Q n listed a { w with drawn := w.drawn + 1 } := h _ rfl
theorem arr_index {P : Program} {t e : TypeId} {n : Nat} {k : IntKind} (hu : P.underlying t = some (.array n e)) (he : P.underlying e = some (.int k)) (hs : (P.info? e).map (·.size) = some 1) (cs : Array Value) (i : Nat) (h : i < n) (v : Value) (hv : cs[i]? = some v) (W : World) :
    (Instr.index t (.agg cs) (.int .i64 (i : Int))).run P W = .ok v W := by
  cases hq : P.info? e with
  | none => simp [hq] at hs
  | some info =>
    have hs1 : info.size = 1 := by simpa [hq] using hs
    unfold Instr.index
    simp [Sem.run_bind, asIntOf, run_underlying hu, sizeOf, typeInfo, hq, hs1]
    rw [if_pos h]
    simp [part, isAgg, Sem.run_bind, run_underlying he, hv]
theorem dlo_out {w0 W w : World} {g : Nat} {res : Except Int (List Int × List Int)} (h : DlO w0 g W res .outgrown w) : False := by
  obtain ⟨_, _, h⟩ := h
  cases res with
  | error x => cases h
  | ok v => obtain ⟨_, h, _⟩ := h; cases h
set_option maxRecDepth 100000 in
set_option maxHeartbeats 16000000 in
theorem dr_list (w0 : World) (g : Nat) (b : List Int) (W : World) (hI : RdI w0 g b W) :
    Calls Try.prog 77 #[.pointer (some ⟨g, 0, none⟩)] W (DlO w0 g W (listS b)) := by
  have HI := Aside0.mk hI
  have MO := Aside0.mk (fun why W => dr_must_ok why W)
  have MN := Aside0.mk (fun why W => dr_must_no why W)
  have HNUM := Aside0.mk (fun l Wz (h : RdI w0 g l Wz) => dr_number w0 g l Wz h)
  have HSGN := Aside0.mk (fun l Wz (h : RdI w0 g l Wz) => dr_signed w0 g l Wz h)
  have HLT := Aside0.mk hI.lt
  obtain ⟨res, hres⟩ : ∃ res, res = listS b := ⟨_, rfl⟩
  rw [← hres]
  have HRES := Aside0.mk hres
  clear hI hres
  go_enter Try.func77, Try.ntmps77
  go_wp2
  go_loopw [19] (fun v19 wr => ∃ (j : Nat) (l : List Int), v19 = .int .i64 j ∧ j ≤ 2 ∧ Aside0 (RdI w0 g l wr) ∧ Aside0 (W.grownBy wr (some g)) ∧ Aside0 ((j = 0 ∧ res = listS l) ∨ (j = 1 ∧ res = wantS 4 l tailS) ∨ (j = 2 ∧ res = tailS l))) (fun v19 _ => 2 - (intOf v19).toNat)
  case atStart => exact ⟨0, b, rfl, by omega, HI, ⟨grown_refl _ _⟩, ⟨.inl ⟨rfl, HRES.out⟩⟩⟩
  case round =>
    clear HI HRES
    obtain ⟨j, l, rfl, hj, HI, HG, HRES⟩ := hrel
    by_cases hj2 : j < 2
    · have q1 : decide ((j : Int) < 2) = true := decide_eq_true (by omega)
      obtain ⟨want, hwant, hres⟩ : ∃ want : Int, ((j = 0 ∧ want = 128) ∨ (j = 1 ∧ want = 4)) ∧ res = wantS want l (fun r => if j = 0 then wantS 4 r tailS else tailS r) := by
        rcases HRES.out with ⟨rfl, h⟩ | ⟨rfl, h⟩ | ⟨rfl, h⟩
        · exact ⟨128, .inl ⟨rfl, rfl⟩, by rw [h]; rfl⟩
        · exact ⟨4, .inr ⟨rfl, rfl⟩, by rw [h]; rfl⟩
        · omega
      have HRES2 := Aside0.mk hres
      have HN := Aside0.mk (HNUM.out l wr HI.out)
      have HWANT := Aside0.mk hwant
      rcases hwant with ⟨rfl, rfl⟩ | ⟨rfl, rfl⟩
      · have hix : ∀ Wz, (Instr.index 118 (.agg #[.int .u64 128, .int .u64 4]) (.int .i64 0)).run Try.prog Wz = .ok (.int .u64 128) Wz := fun Wz => by kernel_rfl
        clear hres HRES hj hj2 HI
        go_wp2_with fail
        refine HN.out.mono ?_
        rintro e W1 ⟨h1, h2, h3⟩
        have H1 := Aside0.mk h1
        skip
        have n0_ := Aside0.mk (grown_trans HG.out h2)
        clear h1 h2 HG HN
        have HG := n0_
        clear n0_
        cases hr : numS 0 0 l with
        | error x =>
          rw [hr] at h3
          have h3 : e = .panicked (failP x) := h3
          subst h3
          have hres := HRES2.out
          rw [wantS] at hres
          rw [hr, andS_err] at hres
          subst hres
          exact ⟨rfl, H1.out, HG.out, rfl⟩
        | ok vr =>
          obtain ⟨v, r⟩ := vr
          rw [hr] at h3
          obtain ⟨h3, h4⟩ : e = .returned (Value.int .u64 v) ∧ RdI w0 g r W1 := h3
          subst h3
          have hres := HRES2.out
          rw [wantS] at hres
          rw [hr, andS_ok] at hres
          try dsimp only at hres
          have HI := Aside0.mk h4
          clear h4 HRES2
          clear hr
          by_cases hv : v = 128
          · rw [if_pos hv] at hres
            have hvb : (v == 128) = true := beq_iff_eq.2 hv
            have HR := Aside0.mk hres
            clear hres hv
            go_wp2_with fail
            refine (MO.out _ _).mono ?_
            rintro e Wx ⟨⟨v2, rfl⟩, hx⟩
            have hx := hx.symm
            subst hx
            clear hix
            go_wp2
            go_roundw
            case rel => exact ⟨1, r, rfl, by omega, HI, HG, ⟨.inr (.inl ⟨rfl, HR.out⟩)⟩⟩
            case measure => simp [intOf]
          · rw [if_neg hv] at hres
            have hvb : (v == 128) = false := beq_eq_false_iff_ne.2 hv
            have HR := Aside0.mk hres
            clear hres hv
            go_wp2_with fail
            refine (MN.out _ _).mono ?_
            rintro e Wx ⟨rfl, hx⟩
            have hx := hx.symm
            subst hx
            have hres := HR.out
            subst hres
            exact ⟨rfl, H1.out, HG.out, rfl⟩
      · have hix : ∀ Wz, (Instr.index 118 (.agg #[.int .u64 128, .int .u64 4]) (.int .i64 1)).run Try.prog Wz = .ok (.int .u64 4) Wz := fun Wz => by kernel_rfl
        clear hres HRES hj hj2 HI
        go_wp2_with fail
        refine HN.out.mono ?_
        rintro e W1 ⟨h1, h2, h3⟩
        have H1 := Aside0.mk h1
        skip
        have n0_ := Aside0.mk (grown_trans HG.out h2)
        clear h1 h2 HG HN
        have HG := n0_
        clear n0_
        cases hr : numS 0 0 l with
        | error x =>
          rw [hr] at h3
          have h3 : e = .panicked (failP x) := h3
          subst h3
          have hres := HRES2.out
          rw [wantS] at hres
          rw [hr, andS_err] at hres
          subst hres
          exact ⟨rfl, H1.out, HG.out, rfl⟩
        | ok vr =>
          obtain ⟨v, r⟩ := vr
          rw [hr] at h3
          obtain ⟨h3, h4⟩ : e = .returned (Value.int .u64 v) ∧ RdI w0 g r W1 := h3
          subst h3
          have hres := HRES2.out
          rw [wantS] at hres
          rw [hr, andS_ok] at hres
          try dsimp only at hres
          have HI := Aside0.mk h4
          clear h4 HRES2
          clear hr
          by_cases hv : v = 4
          · rw [if_pos hv] at hres
            have hvb : (v == 4) = true := beq_iff_eq.2 hv
            have HR := Aside0.mk hres
            clear hres hv
            go_wp2_with fail
            refine (MO.out _ _).mono ?_
            rintro e Wx ⟨⟨v2, rfl⟩, hx⟩
            have hx := hx.symm
            subst hx
            clear hix
            go_wp2
            go_roundw
            case rel => exact ⟨2, r, rfl, by omega, HI, HG, ⟨.inr (.inr ⟨rfl, HR.out⟩)⟩⟩
            case measure => simp [intOf]
          · rw [if_neg hv] at hres
            have hvb : (v == 4) = false := beq_eq_false_iff_ne.2 hv
            have HR := Aside0.mk hres
            clear hres hv
            go_wp2_with fail
            refine (MN.out _ _).mono ?_
            rintro e Wx ⟨rfl, hx⟩
            have hx := hx.symm
            subst hx
            have hres := HR.out
            subst hres
            exact ⟨rfl, H1.out, HG.out, rfl⟩
    · obtain rfl : j = 2 := by omega
      have hres : res = tailS l := by
        rcases HRES.out with ⟨h, _⟩ | ⟨h, _⟩ | ⟨_, h⟩
        · omega
        · omega
        · exact h
      have HRES2 := Aside0.mk hres
      have HN := Aside0.mk (HNUM.out l wr HI.out)
      clear hres HRES hj hj2 HI
      go_wp2_with fail
      refine HN.out.mono ?_
      rintro e W1 ⟨h1, h2, h3⟩
      have H1 := Aside0.mk h1
      skip
      have n0_ := Aside0.mk (grown_trans HG.out h2)
      clear h1 h2 HG HN
      have HG := n0_
      clear n0_
      cases hr : numS 0 0 l with
      | error x =>
        rw [hr] at h3
        have h3 : e = .panicked (failP x) := h3
        subst h3
        have hres := HRES2.out
        rw [tailS] at hres
        rw [hr, andS_err] at hres
        subst hres
        exact ⟨rfl, H1.out, HG.out, rfl⟩
      | ok vr =>
        obtain ⟨many, r1⟩ := vr
        rw [hr] at h3
        obtain ⟨h3, h4⟩ : e = .returned (Value.int .u64 many) ∧ RdI w0 g r1 W1 := h3
        subst h3
        have hres := HRES2.out
        rw [tailS] at hres
        rw [hr, andS_ok] at hres
        try dsimp only at hres
        have HI := Aside0.mk h4
        clear h4 HRES2
        by_cases hv : many ≤ 65536
        · rw [if_pos hv] at hres
          have H0 := Aside0.mk (show 0 ≤ many ∧ many ≤ 65536 from ⟨(numS_range _ _ _ _ _ hr).1, hv⟩)
          have dv : decide (many ≤ 65536) = true := decide_eq_true hv
          have hcv : wrap64 many = many := Bx.w64 (by have := H0.out; omega) (by have := H0.out; omega)
          clear hr
          have HN := Aside0.mk (HSGN.out r1 W1 HI.out)
          have HR := Aside0.mk hres
          clear hres hv
          go_wp2_with fail
          refine (MO.out _ _).mono ?_
          rintro e Wx ⟨⟨v2, rfl⟩, hx⟩
          have hx := hx.symm
          subst hx
          have HRES2 := HR
          clear HR HI
          go_wp2_with fail
          refine HN.out.mono ?_
          rintro e W3 ⟨h1, h2, h3⟩
          have H1 := Aside0.mk h1
          clear dv
          have n0_ := Aside0.mk (grown_trans HG.out h2)
          clear h1 h2 HG HN
          have HG := n0_
          clear n0_
          cases hr : mapS sgnV (numS 0 0 r1) with
          | error x =>
            rw [hr] at h3
            have h3 : e = .panicked (failP x) := h3
            subst h3
            have hres := HRES2.out
            skip
            rw [hr, andS_err] at hres
            subst hres
            exact ⟨rfl, H1.out, HG.out, rfl⟩
          | ok vr =>
            obtain ⟨first, r2⟩ := vr
            rw [hr] at h3
            obtain ⟨h3, h4⟩ : e = .returned (Value.int .i64 first) ∧ RdI w0 g r2 W3 := h3
            subst h3
            have hres := HRES2.out
            skip
            rw [hr, andS_ok] at hres
            try dsimp only at hres
            have HI := Aside0.mk h4
            clear h4 HRES2
            clear hr
            by_cases hv : many > 0 ∨ first = 0
            · rw [if_pos hv] at hres
              by_cases hz : many = 0
              · rw [if_pos hz] at hres
                have HRES3 := Aside0.mk hres
                have dn : (many == 0) = true := beq_iff_eq.2 hz
                have dz : decide (many > 0) = false := decide_eq_false (by omega)
                have dz2 : (first == 0) = true := beq_iff_eq.2 (hv.resolve_left (by omega))
                clear hres hz hv
                go_wp2_with fail
                refine (MO.out _ _).mono ?_
                rintro e Wx ⟨⟨v2, rfl⟩, hx⟩
                have hx := hx.symm
                subst hx
                go_wp2
                go_ret
                have hres := HRES3.out
                subst hres
                exact ⟨H1.out, HG.out, _, rfl, HI.out, World.ownsRow_nil _ _ _ _⟩
              · rw [if_neg hz] at hres
                have HRES3 := Aside0.mk hres
                have dn : (many == 0) = false := beq_eq_false_iff_ne.2 hz
                have dz : decide (many > 0) = true := decide_eq_true (by have := H0.out; omega)
                have HZ := Aside0.mk (show 1 ≤ many by have := H0.out; omega)
                clear hres hz hv
                go_wp2_with fail
                refine (MO.out _ _).mono ?_
                rintro e Wx ⟨⟨v2, rfl⟩, hx⟩
                have hx := hx.symm
                subst hx
                go_wp2
                refine wp_named fun W4 hW4 => ?_
                have HI4 := Aside0.mk (show RdI w0 g r2 W4 from (by rw [hW4]; exact HI.out.keep (below_alloc (Below.refl _ _) _)))
                have HG4 := Aside0.mk (show W.grownBy W4 (some g) from (by rw [hW4]; exact grown_trans HG.out (grown_below (below_alloc (Below.refl _ _) _))))
                obtain ⟨gl, hgl⟩ : ∃ gl, gl = W3.heap.size := ⟨_, rfl⟩
                rw [← hgl]
                have HO4 := Aside0.mk (show W4.ownsRow W.heap.size 2 1 (.slice (some ⟨gl, 0, none⟩) 1 1) [first].length (nums .i64 [first]) from (by rw [hW4, hgl]; exact own_one (by have := HG.out.size; omega) _ _))
                clear hW4 hgl HI HG H1 dn dz hcv
                go_loopw [8, 10] (fun v8 v10 wr => ∃ (k : Nat) (fr : Int) (l lb : List Int), v10 = .int .i64 fr ∧ 1 ≤ fr ∧ fr ≤ 65664 ∧ Aside0 (many - fr < 128 * k) ∧ Aside0 (res = loopS many k fr l lb) ∧ Aside0 (RdI w0 g lb wr) ∧ Aside0 (W.grownBy wr (some g)) ∧ Aside0 (wr.ownsRow W.heap.size 2 1 v8 l.length (nums .i64 l)) ∧ Aside0 ((l.length : Int) ≤ many ∧ 1 ≤ l.length)) (fun _ v10 _ => (70000 - intOf v10).toNat)
                case atStart => exact ⟨513, 1, [first], r2, rfl, by omega, by omega, ⟨by have := H0.out; omega⟩, HRES3, HI4, HG4, HO4, ⟨by have := HZ.out; simp; omega, by simp⟩⟩
                case round =>
                  clear HRES3 HI4 HG4 HO4
                  obtain ⟨k, fr, l, lb, rfl, hf1, hf2, HK, HRES, HI, HG, HO, HLL⟩ := hrel
                  obtain ⟨Al, cl, rfl⟩ := own_formD HO.out
                  by_cases hc : fr < many
                  · have qc : decide (fr < many) = true := decide_eq_true hc
                    obtain ⟨k, rfl⟩ : ∃ j, k = j + 1 := ⟨k - 1, by have := HK.out; omega⟩
                    have hres := HRES.out
                    rw [loopS, if_pos hc] at hres
                    have HRES2 := Aside0.mk hres
                    have HN := Aside0.mk (HSGN.out lb wr HI.out)
                    have HF := Aside0.mk (show 1 ≤ fr ∧ fr ≤ 65664 ∧ fr < many from ⟨hf1, hf2, hc⟩)
                    clear hres HRES HI hf1 hf2 hc
                    go_wp2_with fail
                    refine HN.out.mono ?_
                    rintro e W4 ⟨h1, h2, h3⟩
                    have H1 := Aside0.mk h1
                    have n1_ := Aside0.mk (own_far HO.out h2 HLT.out)
                    clear HO
                    have HO := n1_
                    clear n1_
                    have n0_ := Aside0.mk (grown_trans HG.out h2)
                    clear h1 h2 HG HN
                    have HG := n0_
                    clear n0_
                    cases hr : mapS sgnV (numS 0 0 lb) with
                    | error x =>
                      rw [hr] at h3
                      have h3 : e = .panicked (failP x) := h3
                      subst h3
                      have hres := HRES2.out
                      skip
                      rw [hr, andS_err] at hres
                      subst hres
                      exact ⟨rfl, H1.out, HG.out, rfl⟩
                    | ok vr =>
                      obtain ⟨least, r3⟩ := vr
                      rw [hr] at h3
                      obtain ⟨h3, h4⟩ : e = .returned (Value.int .i64 least) ∧ RdI w0 g r3 W4 := h3
                      subst h3
                      have hres := HRES2.out
                      skip
                      rw [hr, andS_ok] at hres
                      try dsimp only at hres
                      have HI := Aside0.mk h4
                      clear h4 HRES2
                      clear hr
                      have HRES2 := Aside0.mk hres
                      clear hres
                      go_wp2
                      refine wp_named fun W5 hW5 => ?_
                      obtain ⟨gw, hgw⟩ : ∃ gw, gw = W4.heap.size := ⟨_, rfl⟩
                      rw [← hgw]
                      have HI5 := Aside0.mk (show RdI w0 g r3 W5 from (by rw [hW5]; exact HI.out.keep (below_alloc (Below.refl _ _) _)))
                      have HG5 := Aside0.mk (show W.grownBy W5 (some g) from (by rw [hW5]; exact grown_trans HG.out (grown_below (below_alloc (Below.refl _ _) _))))
                      have HO5 := Aside0.mk (show W5.ownsRow W.heap.size 2 1 (.slice Al l.length cl) l.length (nums .i64 l) from (by rw [hW5]; exact HO.out.alloc _))
                      have HA5 := Aside0.mk (show W5.heap[gw]? = some (.cells ((([] : List Int) ++ List.replicate (4 - 0) 0).map (Value.int .i64)).toArray 91 (0, 0)) from (by rw [hW5, hgw]; exact blk_new _ _))
                      have HGW := Aside0.mk (show W.heap.size ≤ gw from (by rw [hgw]; exact HG.out.size))
                      clear hW5 hgw HI HG HO H1
                      go_loopw [57] (fun v57 wr => ∃ (i : Nat) (ws lb : List Int), v57 = .int .i64 i ∧ i ≤ 4 ∧ Aside0 (ws.length = i ∧ ∀ x ∈ ws, 0 ≤ x ∧ x ≤ 64) ∧ Aside0 (res = andS (widS many fr (4 - i) i lb) fun ws' b => andS (partsS many fr least (ws ++ ws') 0 l b) fun l b => loopS many k (fr + 128) l b) ∧ Aside0 (wr.heap[gw]? = some (.cells ((ws ++ List.replicate (4 - i) 0).map (Value.int .i64)).toArray 91 (0, 0))) ∧ Aside0 (RdI w0 g lb wr) ∧ Aside0 (W.grownBy wr (some g)) ∧ Aside0 (wr.ownsRow W.heap.size 2 1 (.slice Al l.length cl) l.length (nums .i64 l))) (fun v57 _ => 4 - (intOf v57).toNat)
                      case atStart => exact ⟨0, [], r3, rfl, by omega, ⟨rfl, fun x hx => by cases hx⟩, HRES2, HA5, HI5, HG5, HO5⟩
                      case round =>
                        clear HRES2 HA5 HI5 HG5 HO5
                        obtain ⟨i, ws, lb, rfl, hi, HWS, HRES2, HA, HI, HG, HO⟩ := hrel
                        by_cases hi4 : i < 4
                        · have qi : decide ((i : Int) < 4) = true := decide_eq_true (by omega)
                          have HN := Aside0.mk (dr_byte w0 g lb wr HI.out)
                          have HU := Aside0.mk HI.out.u8
                          have Hi4 := Aside0.mk hi4
                          clear HI hi
                          go_wp2_with fail
                          refine HN.out.mono ?_
                          rintro e W5 ⟨h1, h2, h3⟩
                          have H1 := Aside0.mk h1
                          have n1_ := Aside0.mk (own_far HO.out h2 HLT.out)
                          clear HO
                          have HO := n1_
                          clear n1_
                          have n2_ := Aside0.mk ((h2.block gw (blk_lt HA.out) (fun e => by have := HGW.out; have := HLT.out; simp only [Option.some.injEq] at e; omega)).trans HA.out)
                          clear HA
                          have HA := n2_
                          clear n2_
                          have n0_ := Aside0.mk (grown_trans HG.out h2)
                          clear h1 h2 HG HN
                          have HG := n0_
                          clear n0_
                          cases hr : byteS lb with
                          | error x =>
                            rw [hr] at h3
                            have h3 : e = .panicked (failP x) := h3
                            subst h3
                            have hres := HRES2.out
                            rw [show 4 - i = (3 - i) + 1 by have := Hi4.out; omega, widS, hr, andS_err, andS_err] at hres
                            subst hres
                            exact ⟨rfl, H1.out, HG.out, rfl⟩
                          | ok vr =>
                            obtain ⟨c, r⟩ := vr
                            rw [hr] at h3
                            obtain ⟨h3, h4⟩ : e = .returned (Value.int .u8 c) ∧ RdI w0 g r W5 := h3
                            subst h3
                            have hres := HRES2.out
                            skip
                            try dsimp only at hres
                            have HI := Aside0.mk h4
                            clear h4 HRES2
                            obtain rfl := byteS_ok hr
                            have hcr : 0 ≤ c ∧ c ≤ 255 := HU.out c (List.mem_cons_self ..)
                            have hcv : wrap64 c = c := Bx.w64 (by omega) (by omega)
                            rw [show 4 - i = (3 - i) + 1 by have := Hi4.out; omega, widS, show byteS (c :: r) = .ok (c, r) from rfl, andS_ok] at hres
                            clear hr
                            have hw1 : IntKind.i64.wrap ((i : Int) * 32) = (i : Int) * 32 := IntWalk.i64_in _ (by have := Hi4.out; omega)
                            have hw2 : IntKind.i64.wrap (fr + (i : Int) * 32) = fr + (i : Int) * 32 := IntWalk.i64_in _ (by have := Hi4.out; have := HF.out; omega)
                            have cA : W5.cell? ⟨gw, i, none⟩ = some (.int .i64 0) := by
                              rw [blk_cell HA.out i]
                              exact row_at ws i 4 HWS.out.1 Hi4.out
                            have fA : W5.frozen? ⟨gw, i, none⟩ = false := blk_frozen HA.out i
                            have f11 : (0 : Int) ≤ (i : Int) := by omega
                            have f12 : (i : Int) < 4 := by have := Hi4.out; omega
                            have f13 : ((i : Int)).toNat = i := rfl
                            have hu80 := Try.underlying91
                            have HCR := Aside0.mk hcr
                            by_cases c64 : c ≤ 64
                            · have q1 : decide (c ≤ 64) = true := decide_eq_true c64
                              by_cases cz : c = 0
                              · have q2 : (c == 0) = true := beq_iff_eq.2 cz
                                rw [if_pos (show c ≤ 64 ∧ (c = 0 ∨ fr + 32 * (i : Int) < many) from ⟨c64, .inl cz⟩)] at hres
                                have HRES2 := Aside0.mk hres
                                have HC64 := Aside0.mk c64
                                clear hres hcr cz c64
                                go_wp2_with fail
                                refine (MO.out _ _).mono ?_
                                rintro e Wx ⟨⟨v2, rfl⟩, rfl⟩
                                go_wp2
                                go_roundw
                                case rel =>
                                  refine ⟨i + 1, ws ++ [c], r, by go_num, by have := Hi4.out; omega, ⟨by simp [HWS.out.1], fun x hx => ?_⟩, ⟨?_⟩, ⟨?_⟩, ⟨?_⟩, ⟨?_⟩, ⟨?_⟩⟩
                                  · rcases List.mem_append.1 hx with h | h
                                    · exact HWS.out.2 x h
                                    · obtain rfl := List.mem_singleton.1 h
                                      exact ⟨HCR.out.1, HC64.out⟩
                                  · rw [HRES2.out, show 4 - (i + 1) = 3 - i by omega]
                                    cases widS many fr (3 - i) (i + 1) r with
                                    | error x => rfl
                                    | ok vr => simp only [andS, List.append_assoc, List.singleton_append]
                                  · have := blk_set HA.out i (.int .i64 c)
                                    rw [this]
                                    congr 2
                                    have hl := HWS.out.1
                                    have h4 := Hi4.out
                                    rw [show 4 - i = (4 - (i + 1)) + 1 by omega, List.replicate_succ]
                                    subst hl
                                    simp
                                  · obtain ⟨A, cc, g1, g2, g3, g4, g5, g6⟩ := HI.out
                                    exact ⟨A, cc, blk_far g1 (by have := HGW.out; have := HLT.out; simp only []; omega) _, g2, g3, g4.setCell (by have := HGW.out; have := HLT.out; simp only []; omega) _, g5, g6⟩
                                  · exact pk_grown HG.out HGW.out _
                                  · exact own_setCell HO.out (own_ne HO.out HA.out (by decide)) _
                                case measure => have := Hi4.out; simp [intOf]; omega
                              · by_cases cf : fr + 32 * (i : Int) < many
                                · have q2 : (c == 0) = false := beq_eq_false_iff_ne.2 cz
                                  have q3 : decide (fr + (i : Int) * 32 < many) = true := decide_eq_true (by omega)
                                  rw [if_pos (show c ≤ 64 ∧ (c = 0 ∨ fr + 32 * (i : Int) < many) from ⟨c64, .inr cf⟩)] at hres
                                  have HRES2 := Aside0.mk hres
                                  have HC64 := Aside0.mk c64
                                  clear hres hcr cz c64 cf
                                  go_wp2_with fail
                                  refine (MO.out _ _).mono ?_
                                  rintro e Wx ⟨⟨v2, rfl⟩, rfl⟩
                                  go_wp2
                                  go_roundw
                                  case rel =>
                                    refine ⟨i + 1, ws ++ [c], r, by go_num, by have := Hi4.out; omega, ⟨by simp [HWS.out.1], fun x hx => ?_⟩, ⟨?_⟩, ⟨?_⟩, ⟨?_⟩, ⟨?_⟩, ⟨?_⟩⟩
                                    · rcases List.mem_append.1 hx with h | h
                                      · exact HWS.out.2 x h
                                      · obtain rfl := List.mem_singleton.1 h
                                        exact ⟨HCR.out.1, HC64.out⟩
                                    · rw [HRES2.out, show 4 - (i + 1) = 3 - i by omega]
                                      cases widS many fr (3 - i) (i + 1) r with
                                      | error x => rfl
                                      | ok vr => simp only [andS, List.append_assoc, List.singleton_append]
                                    · have := blk_set HA.out i (.int .i64 c)
                                      rw [this]
                                      congr 2
                                      have hl := HWS.out.1
                                      have h4 := Hi4.out
                                      rw [show 4 - i = (4 - (i + 1)) + 1 by omega, List.replicate_succ]
                                      subst hl
                                      simp
                                    · obtain ⟨A, cc, g1, g2, g3, g4, g5, g6⟩ := HI.out
                                      exact ⟨A, cc, blk_far g1 (by have := HGW.out; have := HLT.out; simp only []; omega) _, g2, g3, g4.setCell (by have := HGW.out; have := HLT.out; simp only []; omega) _, g5, g6⟩
                                    · exact pk_grown HG.out HGW.out _
                                    · exact own_setCell HO.out (own_ne HO.out HA.out (by decide)) _
                                  case measure => have := Hi4.out; simp [intOf]; omega
                                · have q2 : (c == 0) = false := beq_eq_false_iff_ne.2 cz
                                  have q3 : decide (fr + (i : Int) * 32 < many) = false := decide_eq_false (by omega)
                                  rw [if_neg (show ¬ (c ≤ 64 ∧ (c = 0 ∨ fr + 32 * (i : Int) < many)) from (fun h => h.2.elim cz cf))] at hres
                                  have HRES2 := Aside0.mk hres
                                  clear hres hcr cz c64 cf
                                  go_wp2_with fail
                                  refine (MN.out _ _).mono ?_
                                  rintro e Wx ⟨rfl, rfl⟩
                                  have hres := HRES2.out
                                  subst hres
                                  refine ⟨rfl, ?_, pk_grown HG.out HGW.out _, rfl⟩
                                  obtain ⟨A, cc, g1, g2, g3, g4, g5, g6⟩ := HI.out
                                  exact g4.setCell (by have := HGW.out; have := HLT.out; simp only []; omega) _
                            · have q1 : decide (c ≤ 64) = false := decide_eq_false c64
                              rw [if_neg (show ¬ (c ≤ 64 ∧ (c = 0 ∨ fr + 32 * (i : Int) < many)) from (fun h => c64 h.1))] at hres
                              have HRES2 := Aside0.mk hres
                              clear hres hcr c64
                              go_wp2_with fail
                              refine (MN.out _ _).mono ?_
                              rintro e Wx ⟨rfl, rfl⟩
                              have hres := HRES2.out
                              subst hres
                              refine ⟨rfl, ?_, pk_grown HG.out HGW.out _, rfl⟩
                              obtain ⟨A, cc, g1, g2, g3, g4, g5, g6⟩ := HI.out
                              exact g4.setCell (by have := HGW.out; have := HLT.out; simp only []; omega) _
                        · obtain rfl : i = 4 := by omega
                          have HA4 := Aside0.mk (show wr.heap[gw]? = some (.cells (ws.map (Value.int .i64)).toArray 91 (0, 0)) from (by have := HA.out; rwa [Nat.sub_self, List.replicate_zero, List.append_nil] at this))
                          have HRES4 := Aside0.mk (show res = andS (partsS many fr least ws 0 l lb) (fun l b => loopS many k (fr + 128) l b) from (by have h := HRES2.out; rw [Nat.sub_self, widS, andS_ok, List.append_nil] at h; exact h))
                          obtain ⟨wa, hwa⟩ : ∃ wa, wa = (ws.map (Value.int .i64)).toArray := ⟨_, rfl⟩
                          rw [← hwa] at HA4
                          have hsize : wa.size = 4 := by rw [hwa]; simp [HWS.out.1]
                          have hu80 := Try.underlying91
                          have H80 := Aside0.mk (show (Try.prog.info? 91).map (·.size) = some wa.size from (by rw [hsize]; kernel_rfl))
                          have HIX := Aside0.mk (show ∀ (i : Nat) (x : Int) Wz, i < 4 → ws[i]? = some x → (Instr.index 91 (.agg wa) (.int .i64 (i : Int))).run Try.prog Wz = .ok (.int .i64 x) Wz from (fun i x Wz hi hx => arr_index Try.underlying91 Try.underlying3 (by kernel_rfl) wa i hi _ (by rw [hwa]; simp [hx]) Wz))
                          clear HA HRES2 hi hi4 hwa hsize
                          have hwf : IntKind.i64.wrap (fr + 128) = fr + 128 := IntWalk.i64_in _ (by have := HF.out; omega)
                          go_wp2_with (first | (refine wpList_load_row rfl _ _ rfl gw rfl 91 wa (0, 0) _ HA4.out hu80 rfl H80.out ?_))
                          go_loopw [8, 86] (fun v8 v86 wr => ∃ (i : Nat) (l lb : List Int), v86 = .int .i64 i ∧ i ≤ 4 ∧ Aside0 (res = andS (partsS many fr least (ws.drop i) i l lb) fun l b => loopS many k (fr + 128) l b) ∧ Aside0 (RdI w0 g lb wr) ∧ Aside0 (W.grownBy wr (some g)) ∧ Aside0 (wr.ownsRow W.heap.size 2 1 v8 l.length (nums .i64 l)) ∧ Aside0 ((l.length : Int) ≤ many ∧ 1 ≤ l.length)) (fun _ v86 _ => 4 - (intOf v86).toNat)
                          case atStart => exact ⟨0, l, lb, rfl, by omega, ⟨by rw [List.drop_zero]; exact HRES4.out⟩, HI, HG, HO, HLL⟩
                          case round =>
                            clear HRES4 HI HG HO HLL
                            obtain ⟨i, l, lb, rfl, hi, HRES2, HI, HG, HO, HLL⟩ := hrel
                            obtain ⟨Al, cl, rfl⟩ := own_formD HO.out
                            by_cases hi4 : i < 4
                            · have qi : decide ((i : Int) < 4) = true := decide_eq_true (by omega)
                              obtain ⟨x, hx⟩ : ∃ x, ws[i]? = some x := ⟨_, List.getElem?_eq_getElem (by rw [HWS.out.1]; exact hi4)⟩
                              have hxm := HWS.out.2 x (List.mem_of_getElem? hx)
                              obtain ⟨wn, rfl⟩ := Int.eq_ofNat_of_zero_le hxm.1
                              have hix := fun Wz => HIX.out i (wn : Int) Wz hi4 hx
                              have hdr : ws.drop i = (wn : Int) :: ws.drop (i + 1) := by
                                obtain ⟨hlt, hge⟩ := List.getElem?_eq_some_iff.1 hx
                                rw [List.drop_eq_getElem_cons hlt, hge]
                              have hw1 : IntKind.i64.wrap ((i : Int) * 32) = (i : Int) * 32 := IntWalk.i64_in _ (by omega)
                              have hw2 : IntKind.i64.wrap (fr + (i : Int) * 32) = fr + (i : Int) * 32 := IntWalk.i64_in _ (by have := HF.out; omega)
                              have hw3 : IntKind.i64.wrap ((i : Int) + 1) = (i : Int) + 1 := IntWalk.i64_in _ (by omega)
                              have Hi := Aside0.mk hi4
                              have hres := HRES2.out
                              rw [hdr, partsS] at hres
                              by_cases hge : fr + 32 * (i : Int) ≥ many
                              · have q4 : decide (fr + (i : Int) * 32 ≥ many) = true := decide_eq_true (by omega)
                                rw [if_pos hge, andS_ok] at hres
                                have HRES3 := Aside0.mk hres
                                clear hres HRES2 hge hi hi4 hx hdr hxm
                                go_wp2
                                go_roundw
                                case rel => exact ⟨k, fr + 128, l, lb, by go_num, by have := HF.out; omega, by have := HF.out; have := H0.out; omega, ⟨by have := HK.out; omega⟩, HRES3, HI, HG, HO, HLL⟩
                                case measure => have := HF.out; have := H0.out; simp [intOf]; omega
                              · have q4 : decide (fr + (i : Int) * 32 ≥ many) = false := decide_eq_false (by omega)
                                rw [if_neg hge, Int.toNat_natCast] at hres
                                have HWN := Aside0.mk (show wn ≤ 64 by omega)
                                have HN := Aside0.mk (dr_packed w0 g lb wn wr HI.out (by omega))
                                have HRESx := HRES2
                                clear HRES2 HRESx hge hi hi4 hx hdr hxm HI
                                have HRES2' := Aside0.mk (assocS hres)
                                have HRES2 := HRES2'
                                clear hres HRES2'
                                go_wp2_with fail
                                refine HN.out.mono ?_
                                rintro e W6 ⟨h1, h2, h3⟩
                                have H1 := Aside0.mk h1
                                have n1_ := Aside0.mk (own_far HO.out h2 HLT.out)
                                clear HO
                                have HO := n1_
                                clear n1_
                                have n0_ := Aside0.mk (grown_trans HG.out h2)
                                clear h1 h2 HG HN
                                have HG := n0_
                                clear n0_
                                cases hr : packedS wn lb with
                                | error x =>
                                  rw [hr] at h3
                                  have h3 : e = .panicked (failP x) := h3
                                  subst h3
                                  have hres := HRES2.out
                                  skip
                                  rw [hr, andS_err] at hres
                                  subst hres
                                  exact ⟨rfl, H1.out, HG.out, rfl⟩
                                | ok vr =>
                                  obtain ⟨xs, lb2⟩ := vr
                                  rw [hr] at h3
                                  obtain ⟨h3, h4⟩ : e = .returned (arrV xs) ∧ RdI w0 g lb2 W6 := h3
                                  subst h3
                                  have hres := HRES2.out
                                  skip
                                  rw [hr, andS_ok] at hres
                                  try dsimp only at hres
                                  have HI := Aside0.mk h4
                                  clear h4 HRES2
                                  have HXL := Aside0.mk (show xs.length = 32 from packed_len hr)
                                  clear hr
                                  have HRES2 := Aside0.mk hres
                                  clear hres H1
                                  go_wp2
                                  go_loopw [8, 99] (fun v8 v99 wr => ∃ (j : Nat) (l : List Int), v99 = .int .i64 j ∧ j ≤ 32 ∧ Aside0 (res = andS (partsS many fr least (ws.drop (i + 1)) (i + 1) (addS many least (xs.drop j) l) lb2) fun l b => loopS many k (fr + 128) l b) ∧ Aside0 (RdI w0 g lb2 wr) ∧ Aside0 (W.grownBy wr (some g)) ∧ Aside0 (wr.ownsRow W.heap.size 2 1 v8 l.length (nums .i64 l)) ∧ Aside0 ((l.length : Int) ≤ many ∧ 1 ≤ l.length)) (fun _ v99 _ => 32 - (intOf v99).toNat)
                                  case atStart => exact ⟨0, l, rfl, by omega, ⟨by rw [List.drop_zero]; exact HRES2.out⟩, HI, HG, HO, HLL⟩
                                  case round =>
                                    clear HRES2 HI HG HO HLL
                                    obtain ⟨j, l, rfl, hj, HRES2, HI, HG, HO, HLL⟩ := hrel
                                    obtain ⟨Al, cl, rfl⟩ := own_formD HO.out
                                    by_cases hj32 : j < 32
                                    · have q5 : decide ((j : Int) < 32) = true := decide_eq_true (by omega)
                                      obtain ⟨x, hx⟩ : ∃ x, xs[j]? = some x := ⟨_, List.getElem?_eq_getElem (by rw [HXL.out]; exact hj32)⟩
                                      have hdr : xs.drop j = x :: xs.drop (j + 1) := by
                                        obtain ⟨hlt, hge⟩ := List.getElem?_eq_some_iff.1 hx
                                        rw [List.drop_eq_getElem_cons hlt, hge]
                                      have hix92 : ∀ Wz, (Instr.index 119 (arrV xs) (.int .i64 (j : Int))).run Try.prog Wz = .ok (.int .i64 x) Wz := fun Wz => arr_index Try.underlying119 Try.underlying2 (by kernel_rfl) _ j hj32 _ (by simp [hx]) Wz
                                      have hres := HRES2.out
                                      rw [hdr, addS] at hres
                                      have Hj := Aside0.mk hj32
                                      by_cases heq : (l.length : Int) = many
                                      · have q6 : ((l.length : Int) == many) = true := beq_iff_eq.2 heq
                                        rw [if_pos heq] at hres
                                        have HRES3 := Aside0.mk hres
                                        clear hres HRES2 heq hdr hx hj hj32
                                        go_wp2
                                        go_roundw
                                        case rel => exact ⟨i + 1, l, lb2, by go_num, by have := Hi.out; omega, HRES3, HI, HG, HO, HLL⟩
                                        case measure => have := Hi.out; simp [intOf]; omega
                                      · have q6 : ((l.length : Int) == many) = false := beq_eq_false_iff_ne.2 heq
                                        rw [if_neg heq] at hres
                                        have HRES3 := Aside0.mk hres
                                        obtain ⟨bk, cap, hbq, hbk, _⟩ := HO.out.form (by have := HLL.out.2; omega)
                                        obtain ⟨rfl, rfl⟩ : Al = some ⟨bk, 0, none⟩ ∧ cl = cap := by simpa using hbq
                                        obtain ⟨cB, fB⟩ := own_at HO.out ((l.length : Int) - 1) (by have := HLL.out.2; omega) (by omega)
                                        rw [show ((l.length : Int) - 1).toNat = l.length - 1 by have := HLL.out.2; omega] at cB fB
                                        obtain ⟨y, hy⟩ : ∃ y, y = rd l ((l.length : Int) - 1) := ⟨_, rfl⟩
                                        rw [← hy] at cB
                                        have HY := Aside0.mk hy
                                        have e1 : IntKind.i64.wrap ((l.length : Int) - 1) = (l.length : Int) - 1 := IntWalk.i64_in _ (by have := HLL.out; have := H0.out; omega)
                                        have e2 : 0 ≤ (l.length : Int) - 1 := by have := HLL.out.2; omega
                                        have e3 : ((l.length : Int) - 1).toNat = l.length - 1 := by have := HLL.out.2; omega
                                        have e5 : 1 ≤ (l.length : Int) := by have := HLL.out.2; omega
                                        have e4 : (l.length : Int) - 1 < l.length := by omega
                                        have hw4 : IntKind.i64.wrap ((j : Int) + 1) = (j : Int) + 1 := IntWalk.i64_in _ (by omega)
                                        have HNE := Aside0.mk heq
                                        have HBK := Aside0.mk hbk
                                        clear hres HRES2 heq hdr hx hj hj32 hbq hbk hy fB
                                        go_wp2
                                        refine wp_region_any (by kernel_rfl) ?_
                                        refine any_named fun w3 hw3 => ?_
                                        have c1 : w3.cell? ⟨bk, l.length - 1, none⟩ = some (.int .i64 y) := by rw [hw3]; exact cB
                                        have HI3 := Aside0.mk (show RdI w0 g lb2 w3 from (by rw [hw3]; exact HI.out.keep (below_drew1 (Below.refl _ _))))
                                        have HG3 := Aside0.mk (show W.grownBy w3 (some g) from (by rw [hw3]; exact grown_trans HG.out (grown_below (below_drew1 (Below.refl _ _)))))
                                        have HO3 := Aside0.mk (show w3.ownsRow W.heap.size 2 1 (.slice (some ⟨bk, 0, none⟩) l.length cl) l.length (nums .i64 l) from (by rw [hw3]; exact HO.out.drew))
                                        clear hw3 HI HG HO cB
                                        have HS3 := Aside0.mk (show W.heap.size ≤ w3.heap.size from HG3.out.size)
                                        refine wpAny_take (i := 0) (oi := { dst := some 106, op := Op.move (Operand.tmp 8), type := 44, pos := "delta.go:199", after := #[], guard := none }) (v := .slice (some ⟨bk, 0, none⟩) l.length cl) rfl (by kernel_rfl) (by kernel_rfl) (by kernel_rfl) (fun _ _ _ h => h) (Or.inl ⟨by rfl, ?_⟩) ?_
                                        · (intro w; go_simp)
                                        try simp only [Act.put, List.setIfInBounds_toArray, List.set_cons_zero, List.set_cons_succ]
                                        refine wpAny_take (i := 1) (oi := { dst := some 107, op := Op.move (Operand.tmp 8), type := 44, pos := "delta.go:199", after := #[], guard := none }) (v := .slice (some ⟨bk, 0, none⟩) l.length cl) rfl (by kernel_rfl) (by kernel_rfl) (by kernel_rfl) (fun _ _ _ h => h) (Or.inl ⟨by rfl, ?_⟩) ?_
                                        · (intro w; go_simp)
                                        try simp only [Act.put, List.setIfInBounds_toArray, List.set_cons_zero, List.set_cons_succ]
                                        refine wpAny_take (i := 2) (oi := { dst := some 108, op := Op.move (Operand.tmp 8), type := 44, pos := "delta.go:199", after := #[], guard := none }) (v := .slice (some ⟨bk, 0, none⟩) l.length cl) rfl (by kernel_rfl) (by kernel_rfl) (by kernel_rfl) (fun _ _ _ h => h) (Or.inl ⟨by rfl, ?_⟩) ?_
                                        · (intro w; go_simp)
                                        try simp only [Act.put, List.setIfInBounds_toArray, List.set_cons_zero, List.set_cons_succ]
                                        refine wpAny_take (i := 3) (oi := { dst := some 109, op := Op.call { callee := Callee.builtin Builtin.len, args := #[Operand.tmp 108], argTypes := #[44] }, type := 3, pos := "delta.go:199", after := #[{ on := 2, ground := Ground.data }], guard := none }) (v := .int .i64 l.length) rfl (by kernel_rfl) (by kernel_rfl) (by kernel_rfl) (fun _ _ _ h => h) (Or.inl ⟨by rfl, ?_⟩) ?_
                                        · (intro w; go_simp)
                                        try simp only [Act.put, List.setIfInBounds_toArray, List.set_cons_zero, List.set_cons_succ]
                                        refine wpAny_take (i := 4) (oi := { dst := some 110, op := Op.binOp BinOp.sub 3 (Operand.tmp 109) (Operand.const (Value.int IntKind.i64 1)) 3, type := 3, pos := "delta.go:199", after := #[{ on := 3, ground := Ground.data }], guard := none }) (v := .int .i64 ((l.length : Int) - 1)) rfl (by kernel_rfl) (by kernel_rfl) (by kernel_rfl) (fun _ _ _ h => h) (Or.inl ⟨by rfl, ?_⟩) ?_
                                        · (intro w; go_simp)
                                        try simp only [Act.put, List.setIfInBounds_toArray, List.set_cons_zero, List.set_cons_succ]
                                        refine wpAny_take (i := 5) (oi := { dst := some 111, op := Op.indexAddr 44 (Operand.tmp 107) (Operand.tmp 110), type := 0, pos := "delta.go:199", after := #[{ on := 1, ground := Ground.data }, { on := 4, ground := Ground.data }], guard := none }) (v := .pointer (some ⟨bk, l.length - 1, none⟩)) rfl (by kernel_rfl) (by kernel_rfl) (by kernel_rfl) (fun _ _ _ h => h) (Or.inl ⟨by rfl, ?_⟩) ?_
                                        · (intro w; go_simp)
                                        try simp only [Act.put, List.setIfInBounds_toArray, List.set_cons_zero, List.set_cons_succ]
                                        refine wpAny_take (i := 7) (oi := { dst := some 113, op := Op.move (Operand.tmp 11), type := 2, pos := "delta.go:199", after := #[], guard := none }) (v := .int .i64 least) rfl (by kernel_rfl) (by kernel_rfl) (by kernel_rfl) (fun _ _ _ h => h) (Or.inl ⟨by rfl, ?_⟩) ?_
                                        · (intro w; go_simp)
                                        try simp only [Act.put, List.setIfInBounds_toArray, List.set_cons_zero, List.set_cons_succ]
                                        refine wpAny_take (i := 8) (oi := { dst := some 114, op := Op.move (Operand.tmp 17), type := 2, pos := "delta.go:199", after := #[], guard := none }) (v := .int .i64 x) rfl (by kernel_rfl) (by kernel_rfl) (by kernel_rfl) (fun _ _ _ h => h) (Or.inl ⟨by rfl, ?_⟩) ?_
                                        · (intro w; go_simp)
                                        try simp only [Act.put, List.setIfInBounds_toArray, List.set_cons_zero, List.set_cons_succ]
                                        refine wpAny_ready (rs := [6, 9]) (by kernel_rfl) (by simp) ?_
                                        refine AllReady.cons (o := { dst := some 112, op := Op.load 2 (Operand.tmp 111), type := 2, pos := "delta.go:199", after := #[{ on := 5, ground := Ground.data }], guard := none }) rfl (fun K hK => ?_) ?_
                                        · go_simp
                                          refine hK _ _ ?_
                                          clear hK K
                                          try simp only [Act.put, List.setIfInBounds_toArray, List.set_cons_zero, List.set_cons_succ]
                                          refine wpAny_ready (rs := [9]) (by kernel_rfl) (by simp) ?_
                                          refine AllReady.cons (o := { dst := some 115, op := Op.call { callee := Callee.value (Operand.func 83), args := #[Operand.tmp 113, Operand.tmp 114], argTypes := #[2, 2] }, type := 2, pos := "delta.go:199", after := #[{ on := 7, ground := Ground.data }, { on := 8, ground := Ground.data }], guard := none }) rfl (fun K hK => ?_) ?_
                                          · go_simp
                                            go_at_call 83
                                            refine (delta_add.stays _ _ _).mono ?_
                                            rintro e Wq ⟨rfl, hq⟩
                                            have hq := hq.symm
                                            subst hq
                                            refine hK _ _ ?_
                                            clear hK K
                                            try simp only [Act.put, List.setIfInBounds_toArray, List.set_cons_zero, List.set_cons_succ]
                                            refine wpAny_ready (rs := [10]) (by kernel_rfl) (by simp) ?_
                                            refine AllReady.cons (o := { dst := some 116, op := Op.call { callee := Callee.value (Operand.func 83), args := #[Operand.tmp 112, Operand.tmp 115], argTypes := #[2, 2] }, type := 2, pos := "delta.go:199", after := #[{ on := 6, ground := Ground.data }, { on := 9, ground := Ground.data }, { on := 9, ground := Ground.chain }], guard := none }) rfl (fun K hK => ?_) ?_
                                            · go_simp
                                              go_at_call 83
                                              refine (delta_add.stays _ _ _).mono ?_
                                              rintro e Wq ⟨rfl, hq⟩
                                              have hq := hq.symm
                                              subst hq
                                              refine hK _ _ ?_
                                              clear hK K
                                              try simp only [Act.put, List.setIfInBounds_toArray, List.set_cons_zero, List.set_cons_succ]
                                              refine wpAny_ready (rs := [11]) (by kernel_rfl) (by simp) ?_
                                              refine AllReady.cons (o := { dst := some 117, op := Op.buildSlice 44 1 #[(0, Operand.tmp 116)], type := 44, pos := "delta.go:199", after := #[{ on := 10, ground := Ground.data }], guard := none }) rfl (fun K hK => ?_) ?_
                                              · go_simp
                                                refine hK _ _ ?_
                                                clear hK K
                                                try simp only [Act.put, List.setIfInBounds_toArray, List.set_cons_zero, List.set_cons_succ]
                                                refine wpAny_ready (rs := [12]) (by kernel_rfl) (by simp) ?_
                                                refine AllReady.cons (o := { dst := some 118, op := Op.call { callee := Callee.builtin Builtin.append, args := #[Operand.tmp 106, Operand.tmp 117], argTypes := #[44, 44] }, type := 44, pos := "delta.go:199", after := #[{ on := 0, ground := Ground.data }, { on := 11, ground := Ground.data }, { on := 10, ground := Ground.chain }], guard := none }) rfl (fun K hK => ?_) ?_
                                                · refine oper_of_list (by rintro ⟨_, _, h⟩; exact dlo_out (w0 := w0) (g := g) (W := W) (res := res) h) ?_
                                                  refine print_append_num (w0 := w3) W.heap.size rfl (.tmp 106) (.tmp 117) 44 2 .i64 8 rfl Try.underlying44 dl_info (by decide) (.slice (some ⟨bk, 0, none⟩) l.length cl) l (wrap64 (y + wrap64 (least + x))) rfl rfl HO3.out (Below.refl _ _) HS3.out (by have := HLL.out; have := H0.out; omega) ?_
                                                  intro v2 w2 ho2 hb2 hg2 hat2
                                                  have HO5 := Aside0.mk ho2
                                                  have HB5 := Aside0.mk hb2
                                                  clear ho2 hb2 hg2 hat2
                                                  show K _ _
                                                  refine hK _ _ ?_
                                                  clear hK K
                                                  try simp only [Act.put, List.setIfInBounds_toArray, List.set_cons_zero, List.set_cons_succ]
                                                  refine wpAny_ready (rs := [13]) (by kernel_rfl) (by simp) ?_
                                                  refine AllReady.cons (o := { dst := some 8, op := Op.assign (Operand.tmp 118), type := 44, pos := "delta.go:199", after := #[{ on := 12, ground := Ground.data }, { on := 12, ground := Ground.chain }, { on := 0, ground := Ground.phase }, { on := 1, ground := Ground.phase }, { on := 2, ground := Ground.phase }, { on := 3, ground := Ground.phase }, { on := 4, ground := Ground.phase }, { on := 5, ground := Ground.phase }, { on := 6, ground := Ground.phase }, { on := 7, ground := Ground.phase }, { on := 8, ground := Ground.phase }, { on := 9, ground := Ground.phase }, { on := 10, ground := Ground.phase }, { on := 11, ground := Ground.phase }, { on := 12, ground := Ground.phase }], guard := none }) rfl (fun K hK => ?_) ?_
                                                  · go_simp
                                                    refine hK _ _ ?_
                                                    clear hK K
                                                    try simp only [Act.put, List.setIfInBounds_toArray, List.set_cons_zero, List.set_cons_succ]
                                                    refine wpAny_done (by kernel_rfl) ?_ _
                                                    go_wp2
                                                    go_roundw
                                                    case rel =>
                                                      refine ⟨j + 1, l ++ [wrap64 (y + wrap64 (least + x))], by go_num, by have := Hj.out; omega, ⟨by rw [HY.out]; exact HRES3.out⟩, ⟨?_⟩, ⟨?_⟩, HO5, ⟨?_⟩⟩
                                                      · exact HI3.out.keepB HB5.out HLT.out
                                                      · exact grown_belowN HG3.out HB5.out
                                                      · have := HLL.out; have := HNE.out; simp; omega
                                                    case measure => have := Hj.out; simp [intOf]; omega
                                                  exact AllReady.nil
                                                exact AllReady.nil
                                              exact AllReady.nil
                                            exact AllReady.nil
                                          exact AllReady.nil
                                        refine AllReady.cons (o := { dst := some 115, op := Op.call { callee := Callee.value (Operand.func 83), args := #[Operand.tmp 113, Operand.tmp 114], argTypes := #[2, 2] }, type := 2, pos := "delta.go:199", after := #[{ on := 7, ground := Ground.data }, { on := 8, ground := Ground.data }], guard := none }) rfl (fun K hK => ?_) ?_
                                        · go_simp
                                          go_at_call 83
                                          refine (delta_add.stays _ _ _).mono ?_
                                          rintro e Wq ⟨rfl, hq⟩
                                          have hq := hq.symm
                                          subst hq
                                          refine hK _ _ ?_
                                          clear hK K
                                          try simp only [Act.put, List.setIfInBounds_toArray, List.set_cons_zero, List.set_cons_succ]
                                          refine wpAny_ready (rs := [6]) (by kernel_rfl) (by simp) ?_
                                          refine AllReady.cons (o := { dst := some 112, op := Op.load 2 (Operand.tmp 111), type := 2, pos := "delta.go:199", after := #[{ on := 5, ground := Ground.data }], guard := none }) rfl (fun K hK => ?_) ?_
                                          · go_simp
                                            refine hK _ _ ?_
                                            clear hK K
                                            try simp only [Act.put, List.setIfInBounds_toArray, List.set_cons_zero, List.set_cons_succ]
                                            refine wpAny_ready (rs := [10]) (by kernel_rfl) (by simp) ?_
                                            refine AllReady.cons (o := { dst := some 116, op := Op.call { callee := Callee.value (Operand.func 83), args := #[Operand.tmp 112, Operand.tmp 115], argTypes := #[2, 2] }, type := 2, pos := "delta.go:199", after := #[{ on := 6, ground := Ground.data }, { on := 9, ground := Ground.data }, { on := 9, ground := Ground.chain }], guard := none }) rfl (fun K hK => ?_) ?_
                                            · go_simp
                                              go_at_call 83
                                              refine (delta_add.stays _ _ _).mono ?_
                                              rintro e Wq ⟨rfl, hq⟩
                                              have hq := hq.symm
                                              subst hq
                                              refine hK _ _ ?_
                                              clear hK K
                                              try simp only [Act.put, List.setIfInBounds_toArray, List.set_cons_zero, List.set_cons_succ]
                                              refine wpAny_ready (rs := [11]) (by kernel_rfl) (by simp) ?_
                                              refine AllReady.cons (o := { dst := some 117, op := Op.buildSlice 44 1 #[(0, Operand.tmp 116)], type := 44, pos := "delta.go:199", after := #[{ on := 10, ground := Ground.data }], guard := none }) rfl (fun K hK => ?_) ?_
                                              · go_simp
                                                refine hK _ _ ?_
                                                clear hK K
                                                try simp only [Act.put, List.setIfInBounds_toArray, List.set_cons_zero, List.set_cons_succ]
                                                refine wpAny_ready (rs := [12]) (by kernel_rfl) (by simp) ?_
                                                refine AllReady.cons (o := { dst := some 118, op := Op.call { callee := Callee.builtin Builtin.append, args := #[Operand.tmp 106, Operand.tmp 117], argTypes := #[44, 44] }, type := 44, pos := "delta.go:199", after := #[{ on := 0, ground := Ground.data }, { on := 11, ground := Ground.data }, { on := 10, ground := Ground.chain }], guard := none }) rfl (fun K hK => ?_) ?_
                                                · refine oper_of_list (by rintro ⟨_, _, h⟩; exact dlo_out (w0 := w0) (g := g) (W := W) (res := res) h) ?_
                                                  refine print_append_num (w0 := w3) W.heap.size rfl (.tmp 106) (.tmp 117) 44 2 .i64 8 rfl Try.underlying44 dl_info (by decide) (.slice (some ⟨bk, 0, none⟩) l.length cl) l (wrap64 (y + wrap64 (least + x))) rfl rfl HO3.out (Below.refl _ _) HS3.out (by have := HLL.out; have := H0.out; omega) ?_
                                                  intro v2 w2 ho2 hb2 hg2 hat2
                                                  have HO5 := Aside0.mk ho2
                                                  have HB5 := Aside0.mk hb2
                                                  clear ho2 hb2 hg2 hat2
                                                  show K _ _
                                                  refine hK _ _ ?_
                                                  clear hK K
                                                  try simp only [Act.put, List.setIfInBounds_toArray, List.set_cons_zero, List.set_cons_succ]
                                                  refine wpAny_ready (rs := [13]) (by kernel_rfl) (by simp) ?_
                                                  refine AllReady.cons (o := { dst := some 8, op := Op.assign (Operand.tmp 118), type := 44, pos := "delta.go:199", after := #[{ on := 12, ground := Ground.data }, { on := 12, ground := Ground.chain }, { on := 0, ground := Ground.phase }, { on := 1, ground := Ground.phase }, { on := 2, ground := Ground.phase }, { on := 3, ground := Ground.phase }, { on := 4, ground := Ground.phase }, { on := 5, ground := Ground.phase }, { on := 6, ground := Ground.phase }, { on := 7, ground := Ground.phase }, { on := 8, ground := Ground.phase }, { on := 9, ground := Ground.phase }, { on := 10, ground := Ground.phase }, { on := 11, ground := Ground.phase }, { on := 12, ground := Ground.phase }], guard := none }) rfl (fun K hK => ?_) ?_
                                                  · go_simp
                                                    refine hK _ _ ?_
                                                    clear hK K
                                                    try simp only [Act.put, List.setIfInBounds_toArray, List.set_cons_zero, List.set_cons_succ]
                                                    refine wpAny_done (by kernel_rfl) ?_ _
                                                    go_wp2
                                                    go_roundw
                                                    case rel =>
                                                      refine ⟨j + 1, l ++ [wrap64 (y + wrap64 (least + x))], by go_num, by have := Hj.out; omega, ⟨by rw [HY.out]; exact HRES3.out⟩, ⟨?_⟩, ⟨?_⟩, HO5, ⟨?_⟩⟩
                                                      · exact HI3.out.keepB HB5.out HLT.out
                                                      · exact grown_belowN HG3.out HB5.out
                                                      · have := HLL.out; have := HNE.out; simp; omega
                                                    case measure => have := Hj.out; simp [intOf]; omega
                                                  exact AllReady.nil
                                                exact AllReady.nil
                                              exact AllReady.nil
                                            exact AllReady.nil
                                          exact AllReady.nil
                                        exact AllReady.nil
                                    · obtain rfl : j = 32 := by omega
                                      have HRES3 := Aside0.mk (show res = andS (partsS many fr least (ws.drop (i + 1)) (i + 1) l lb2) (fun l b => loopS many k (fr + 128) l b) from (by rw [HRES2.out, show List.drop 32 xs = [] from List.drop_of_length_le (by rw [HXL.out]; omega)]; rfl))
                                      clear HRES2
                                      go_wp2
                                      go_roundw
                                      case rel => exact ⟨i + 1, l, lb2, by go_num, by have := Hi.out; omega, HRES3, HI, HG, HO, HLL⟩
                                      case measure => have := Hi.out; simp [intOf]; omega
                            · obtain rfl : i = 4 := by omega
                              have HRES3 := Aside0.mk (show res = loopS many k (fr + 128) l lb from (by have h := HRES2.out; rw [List.drop_of_length_le (by rw [HWS.out.1]; omega), partsS, andS_ok] at h; exact h))
                              clear HRES2 hi hi4
                              go_wp2
                              go_roundw
                              case rel => exact ⟨k, fr + 128, l, lb, by go_num, by have := HF.out; omega, by have := HF.out; have := H0.out; omega, ⟨by have := HK.out; omega⟩, HRES3, HI, HG, HO, HLL⟩
                              case measure => have := HF.out; have := H0.out; simp [intOf]; omega
                  · have qc : decide (fr < many) = false := decide_eq_false hc
                    have hres := HRES.out
                    have hres2 : res = .ok (l, lb) := by
                      rw [hres]
                      cases k with
                      | zero => rfl
                      | succ k => rw [loopS, if_neg hc]
                    have HRES3 := Aside0.mk hres2
                    clear hres hres2 HRES hc hf1 hf2
                    go_wp2
                    go_ret
                    have hres := HRES3.out
                    subst hres
                    exact ⟨by obtain ⟨_, _, _, _, _, h, _⟩ := HI.out; exact h, HG.out, _, rfl, HI.out, HO.out⟩
            · rw [if_neg hv] at hres
              have dz1 : decide (many > 0) = false := decide_eq_false (fun h => hv (.inl h))
              have dz2 : (first == 0) = false := beq_eq_false_iff_ne.2 (fun h => hv (.inr h))
              have HR := Aside0.mk hres
              clear hres hv
              go_wp2_with fail
              refine (MN.out _ _).mono ?_
              rintro e Wx ⟨rfl, hx⟩
              have hx := hx.symm
              subst hx
              have hres := HR.out
              subst hres
              exact ⟨rfl, H1.out, HG.out, rfl⟩
        · rw [if_neg hv] at hres
          have dv : decide (many ≤ 65536) = false := decide_eq_false hv
          clear hr
          have HR := Aside0.mk hres
          clear hres hv
          go_wp2_with fail
          refine (MN.out _ _).mono ?_
          rintro e Wx ⟨rfl, hx⟩
          have hx := hx.symm
          subst hx
          have hres := HR.out
          subst hres
          exact ⟨rfl, H1.out, HG.out, rfl⟩
end Go.Proofs.Ytcdephhplmcmjaa.X
end

section
namespace Go.Proofs.Ytcdephhplmcmjaa.X
open Go.RowKit Go.Proofs.YtcdephhplmcmjaaW.PrintWords Go.Proofs.YtcdephhplmcmjaaW.PrintLast Go.Proofs.YtcdephhplmcmjaaW.PrintMore
attribute [local go_sem] max2_int min2_int max_two min_two max_three min_three max_four min_four
set_option linter.unusedVariables false
set_option linter.unusedSimpArgs false
open Go.Proofs in
set_option maxHeartbeats 32000000 in
set_option maxRecDepth 1000000 in
theorem len64_runs (x : Int) (w : World) (h0 : 0 ≤ x) (h1 : x ≤ 18446744073709551615) :
    Calls Try.prog 74 #[.int .u64 x] w fun e w' => e = .returned (.int .i64 (Lib.bitLen x.toNat)) ∧ w' = w := by
  go_enter Try.func74, Try.ntmps74
  go_wp2
  all_goals first
    | (go_ret; refine ⟨congrArg Ending.returned (congrArg (Value.int IntKind.i64) ?_), rfl⟩; go_light)
    | (exfalso
       go_light
       have hs := len8tab_size
       omega)
  all_goals first
    | (rw [len8_get (x / 4294967296 / 65536 / 256) _, Lib.len8_of (x / 4294967296 / 65536 / 256) (by omega) (by omega)]
       have e : (x / 4294967296 / 65536 / 256).toNat = x.toNat / 72057594037927936 := by omega
       have l := Lib.bitLen_le8' (x / 4294967296 / 65536 / 256) (by omega) (by omega)
       have s := Lib.bitLen_shift56 x.toNat (by omega) (by omega)
       rw [e] at l ⊢
       exact wrap_add 56 _ _ (by decide) l s)
    | (rw [len8_get (x / 4294967296 / 65536) _, Lib.len8_of (x / 4294967296 / 65536) (by omega) (by omega)]
       have e : (x / 4294967296 / 65536).toNat = x.toNat / 281474976710656 := by omega
       have l := Lib.bitLen_le8' (x / 4294967296 / 65536) (by omega) (by omega)
       have s := Lib.bitLen_shift48 x.toNat (by omega) (by omega)
       rw [e] at l ⊢
       exact wrap_add 48 _ _ (by decide) l s)
    | (rw [len8_get (x / 4294967296 / 256) _, Lib.len8_of (x / 4294967296 / 256) (by omega) (by omega)]
       have e : (x / 4294967296 / 256).toNat = x.toNat / 1099511627776 := by omega
       have l := Lib.bitLen_le8' (x / 4294967296 / 256) (by omega) (by omega)
       have s := Lib.bitLen_shift40 x.toNat (by omega) (by omega)
       rw [e] at l ⊢
       exact wrap_add 40 _ _ (by decide) l s)
    | (rw [len8_get (x / 4294967296) _, Lib.len8_of (x / 4294967296) (by omega) (by omega)]
       have e : (x / 4294967296).toNat = x.toNat / 4294967296 := by omega
       have l := Lib.bitLen_le8' (x / 4294967296) (by omega) (by omega)
       have s := Lib.bitLen_shift32 x.toNat (by omega) (by omega)
       rw [e] at l ⊢
       exact wrap_add 32 _ _ (by decide) l s)
    | (rw [len8_get (x / 65536 / 256) _, Lib.len8_of (x / 65536 / 256) (by omega) (by omega)]
       have e : (x / 65536 / 256).toNat = x.toNat / 16777216 := by omega
       have l := Lib.bitLen_le8' (x / 65536 / 256) (by omega) (by omega)
       have s := Lib.bitLen_shift24 x.toNat (by omega) (by omega)
       rw [e] at l ⊢
       exact wrap_add 24 _ _ (by decide) l s)
    | (rw [len8_get (x / 65536) _, Lib.len8_of (x / 65536) (by omega) (by omega)]
       have e : (x / 65536).toNat = x.toNat / 65536 := by omega
       have l := Lib.bitLen_le8' (x / 65536) (by omega) (by omega)
       have s := Lib.bitLen_shift16 x.toNat (by omega) (by omega)
       rw [e] at l ⊢
       exact wrap_add 16 _ _ (by decide) l s)
    | (rw [len8_get (x / 256) _, Lib.len8_of (x / 256) (by omega) (by omega)]
       have e : (x / 256).toNat = x.toNat / 256 := by omega
       have l := Lib.bitLen_le8' (x / 256) (by omega) (by omega)
       have s := Lib.bitLen_shift8 x.toNat (by omega) (by omega)
       rw [e] at l ⊢
       exact wrap_add 8 _ _ (by decide) l s)
    | (rw [len8_get (x) _, Lib.len8_of (x) (by omega) (by omega)]
       have e : (x).toNat = x.toNat := by omega
       have l := Lib.bitLen_le8' (x) (by omega) (by omega)
       rw [e] at l ⊢
       first | exact wrap_wrap _ l | exact wrap_add 0 _ _ (by decide) l (by omega) | exact wrap_one _ l)
def bits_Len64.f (x : Int) : Option Int := if 0 ≤ x ∧ x ≤ 18446744073709551615 then some ((Lib.bitLen x.toNat : Nat) : Int) else none
theorem bits_Len64.calls (x r : Int) (w : World) (h : bits_Len64.f x = some r) : Calls Try.prog 74 #[.int .u64 x] w fun e w' => e = .returned (.int .i64 r) ∧ Drawn0 w w' := by
  unfold bits_Len64.f at h
  by_cases c : 0 ≤ x ∧ x ≤ 18446744073709551615
  · rw [if_pos c] at h
    obtain rfl := Option.some.inj h
    exact (len64_runs x w c.1 c.2).mono (fun e w' h => ⟨h.1, ⟨0, h.2⟩⟩)
  · rw [if_neg c] at h; cases h
end Go.Proofs.Ytcdephhplmcmjaa.X
end

section
namespace Go.Proofs.Ytcdephhplmcmjaa.X
open Go.RowKit Go.Proofs.YtcdephhplmcmjaaW.PrintWords Go.Proofs.YtcdephhplmcmjaaW.PrintLast Go.Proofs.YtcdephhplmcmjaaW.PrintMore
attribute [local go_sem] max2_int min2_int max_two min_two max_three min_three max_four min_four
set_option linter.unusedVariables false
set_option linter.unusedSimpArgs false
def delta_Width.f (a0 : Int) : Option (Int) := (bits_Len64.f (IntKind.u64.wrap (a0))).bind fun t112 => (some t112)
set_option maxHeartbeats 8000000 in
set_option maxRecDepth 100000 in
theorem delta_Width.calls (a0 : Int) (r : Int) (w : World) (h : delta_Width.f a0 = some r) :
  Calls Try.prog 64 #[.int .i64 a0] w fun e w' => e = .returned (.int .i64 r) ∧ Drawn0 w w' := by
 have H : ((bits_Len64.f (IntKind.u64.wrap (a0))).bind fun t112 => (some t112)) = some r := h
 clear h
 replace H := Option.bind_eq_some_iff.mp H
 obtain ⟨t112, A20, H⟩ := H
 replace H : (some t112) = some r := H
 have A2 := Aside0.mk A20
 clear A20
 obtain rfl := Option.some.inj H
 go_enter Try.func64, Try.ntmps64
 go_wp2_with (first | ((with_reducible refine gate_callee (f := 74) rfl ?_); refine goesL_ (some 5) rfl rfl Try.func74 (by kernel_rfl) rfl #[.int .u64 (IntKind.u64.wrap (a0))] rfl (by (try simp only [List.map_toArray, List.map_cons, List.map_nil]); first | done | rfl | (simp only [List.length_drop, List.length_take]; rfl)) ?_; (with_reducible refine (bits_Len64.calls (IntKind.u64.wrap (a0)) t112 _ A2.out).mono ?_); rintro e w' ⟨rfl, ⟨nd, rfl⟩⟩; refine ⟨_, rfl, ?_⟩))
 go_ret
 exact ⟨by first | rfl | (simp; done) | (simp [*]; done), by repeat (first | exact Drawn0.refl _ | apply Drawn0.step)⟩
end Go.Proofs.Ytcdephhplmcmjaa.X
end

section
namespace Go.Proofs.Ytcdephhplmcmjaa.X
open Go.RowKit Go.Proofs.YtcdephhplmcmjaaW.PrintWords Go.Proofs.YtcdephhplmcmjaaW.PrintLast Go.Proofs.YtcdephhplmcmjaaW.PrintMore
attribute [local go_sem] max2_int min2_int max_two min_two max_three min_three max_four min_four
set_option linter.unusedVariables false
set_option linter.unusedSimpArgs false
def slices_Min_int64_int64.f : List Int → Option Int
  | [] => none
  | x :: r => some (r.foldl min x)
theorem min_step (x : Int) (r : List Int) (i : Nat) (h : i < r.length) : min ((r.take i).foldl min x) (r.getD i 0) = (r.take (i + 1)).foldl min x := by
  rw [List.take_add_one, List.foldl_append]
  simp [List.getElem?_eq_getElem h]
set_option maxRecDepth 100000 in
set_option maxHeartbeats 1000000 in
theorem slices_Min_int64_int64.calls (A0 : Option Addr) (c0 : Nat) (l0 : List Int) (r : Int) (w : World) (hr0 : Kd.C (Kd.int .i64) w A0 l0.length l0) (hc0 : l0.length ≤ c0) (h : slices_Min_int64_int64.f l0 = some r) :
    Calls Try.prog 63 #[.slice A0 l0.length c0] w fun e w' => e = .returned (.int .i64 r) ∧ Drawn0 w w' := by
  cases l0 with
  | nil => cases h
  | cons x rs =>
    obtain rfl : rs.foldl min x = r := by simpa [slices_Min_int64_int64.f] using h
    clear h
    have hmax := hr0.2.1
    obtain ⟨ad, rfl, hcell⟩ := c_at hr0 0 (by omega) (by simp)
    rw [show rd (x :: rs) 0 = x from rfl, show ad.add (Int.toNat 0) = ad from by simp [Addr.add]] at hcell
    obtain ⟨ls, hls⟩ : ∃ ls, ls = x :: rs := ⟨_, rfl⟩
    have hlen : ls.length = rs.length + 1 := by rw [hls]; rfl
    rw [← hls] at hr0 hmax hc0 ⊢
    have HR := Aside0.mk hr0
    have HL := Aside0.mk hls
    have b1 : decide ((ls.length : Int) < 1) = false := decide_eq_false (by omega)
    have b2 : (0 : Int) < (ls.length : Int) := by omega
    have hm2 : ls.length ≤ 9223372036854775807 := hmax
    have HLEN := Aside0.mk hlen
    clear hr0 hls hmax hc0 hlen
    go_enter Try.func63, Try.ntmps63
    go_wp2
    go_loopw [3, 4] (fun v3 v4 wr => ∃ i : Nat, v3 = .int .i64 ((rs.take i).foldl min x) ∧ v4 = .int .i64 ((i + 1 : Nat) : Int) ∧ i ≤ rs.length ∧ wr = w) (fun _ v4 _ => ls.length + 1 - (intOf v4).toNat)
    case atStart => exact ⟨0, rfl, rfl, by omega, rfl⟩
    case round =>
      obtain ⟨i, rfl, rfl, hi, rfl⟩ := hrel
      have hlen := HLEN.out
      by_cases hc : i < rs.length
      · have q1 : decide (((i + 1 : Nat) : Int) < (ls.length : Int)) = true := decide_eq_true (by omega)
        obtain ⟨ad2, had, hcell2⟩ := c_at HR.out ((i + 1 : Nat) : Int) (by omega) (by omega)
        obtain rfl : ad = ad2 := by simpa using had
        have hx : rd ls ((i + 1 : Nat) : Int) = rs.getD i 0 := by rw [HL.out]; rfl
        rw [hx, show (((i + 1 : Nat) : Int)).toNat = i + 1 from rfl] at hcell2
        have hst := min_step x rs i hc
        have e2 : (0 : Int) ≤ ((i + 1 : Nat) : Int) := by omega
        have e3 : ((i + 1 : Nat) : Int) < (ls.length : Int) := by omega
        have e4 : (((i + 1 : Nat) : Int)).toNat = i + 1 := rfl
        have hw : IntKind.i64.wrap (((i + 1 : Nat) : Int) + 1) = ((i + 1 + 1 : Nat) : Int) := by rw [IntWalk.i64_in _ (by omega)]; omega
        have Hc := Aside0.mk hc
        have HST := Aside0.mk hst
        clear hc hst hi had
        obtain ⟨I, hI⟩ : ∃ I : Nat, I = i + 1 := ⟨_, rfl⟩
        rw [← hI] at q1 hcell2 e2 e3 e4 hw ⊢
        have HI := Aside0.mk hI
        obtain ⟨z, hz⟩ : ∃ z, z = rs.getD i 0 := ⟨_, rfl⟩
        obtain ⟨mv, hmv⟩ : ∃ mv, mv = (rs.take i).foldl min x := ⟨_, rfl⟩
        rw [← hz] at hcell2
        rw [← hmv]
        have HZ := Aside0.mk (And.intro hz hmv)
        clear hI hz hmv hx
        go_wp2
        go_roundw
        case rel =>
          refine ⟨i + 1, ?_, ?_, by have := Hc.out; omega, by first | rfl | trivial⟩
          · rw [← HST.out, ← HZ.out.1, ← HZ.out.2]
            congr 1
            by_cases hq : z < mv
            · rw [if_pos hq]; omega
            · rw [if_neg hq]; omega
          · rw [← HI.out]; rfl
        case measure => have := HI.out; have := Hc.out; have := HLEN.out; simp [intOf]; omega
      · have q1 : decide (((i + 1 : Nat) : Int) < (ls.length : Int)) = false := decide_eq_false (by omega)
        obtain rfl : i = rs.length := by omega
        rw [List.take_length]
        obtain ⟨I, hI⟩ : ∃ I : Nat, I = rs.length + 1 := ⟨_, rfl⟩
        rw [← hI] at q1 ⊢
        have hIl : ¬ I < ls.length := by omega
        clear hI hc hi hlen
        go_wp2
        go_ret
        exact ⟨rfl, ⟨0, rfl⟩⟩
end Go.Proofs.Ytcdephhplmcmjaa.X
end

section
namespace Go.Proofs.Ytcdephhplmcmjaa.X
open Go.RowKit Go.Lib Go.Proofs.YtcdephhplmcmjaaW.PrintWords Go.Proofs.YtcdephhplmcmjaaW.PrintLast Go.Proofs.YtcdephhplmcmjaaW.PrintMore
set_option linter.unusedVariables false
set_option linter.unusedSimpArgs false
set_option maxHeartbeats 4000000 in
set_option maxRecDepth 100000 in
theorem dg_grow (n : Nat) (w : World) (hn : n ≤ 100000000000) :
    Calls Try.prog 75 #[.slice none 0 0, .int .i64 (n : Int)] w fun e w' => ∃ v, e = .returned v ∧ w'.ownsRow w.heap.size 5 1 v 0 [] ∧ Below w.heap.size w w' := by
  by_cases h0 : n = 0
  · subst h0
    go_enter Try.func75, Try.ntmps75
    go_wp2
    go_ret
    exact ⟨_, rfl, World.ownsRow_nil _ _ _ _, Below.refl _ _⟩
  · obtain ⟨i0, hi0, hz0, hs0, hb0⟩ := info_parts info5
    have h1 : ¬ ((n : Int) < 0) := by omega
    have h4 : (n : Int) > 0 := by omega
    have hold : (Builtin.firstCells i0.size 0 (.slice none 0 0)).run Try.prog w.drew = .ok ([] : List Value).toArray w.drew := run_firstCells_none w.drew i0.size 0 0 0
    have hrz : ∀ ty, (Builtin.append_ #[25, 3] ty #[.slice none 0 0, .int .i64 (n : Int)]).run Try.prog w =
        .ok (.slice (some ⟨w.heap.size, 0, none⟩) n (grownCap w n 0 5)) (w.drew.alloc (.cells (([] : List Value).toArray ++ Builtin.zeroCells (Value.int .u8 0).cells n ++ Builtin.zeroCells (Value.int .u8 0).cells (grownCap w n 0 5 - n)) 5)) := fun ty => by
      have h := Lib.run_append_grow_zeros w 25 3 ty 5 i0 (.int .u8 0) .i64 .i64 Try.underlying25 Try.underlying3 hi0 hz0 none 0 0 [] hold n (by omega) (by omega) (by omega) (by omega)
        (by rw [hb0]; omega)
        (by simp only [Nat.zero_add]; exact growslice_fits (by omega) (by rw [hb0]; omega))
      rw [Nat.zero_add] at h
      exact h
    have hGn : n ≤ grownCap w n 0 5 := grownCap_ge w _ _ _
    have hGm := grownCap_le_maxLen w n 0 5 (by unfold maxLen; omega)
    obtain ⟨G, hG⟩ : ∃ G, G = grownCap w n 0 5 := ⟨_, rfl⟩
    rw [← hG] at hrz hGn hGm
    have hG63 : G ≤ 9223372036854775807 := by unfold maxLen at hGm; omega
    obtain ⟨cur, hcur⟩ : ∃ cur, cur = ([] : List Value).toArray ++ Builtin.zeroCells (Value.int .u8 0).cells n ++ Builtin.zeroCells (Value.int .u8 0).cells (G - n) := ⟨_, rfl⟩
    rw [← hcur] at hrz
    have hsz : cur.size = G := by rw [hcur]; simp [Builtin.zeroCells, Value.cells]; omega
    have HSZ := Aside0.mk hsz
    have HGM := Aside0.mk hGm
    clear hold hG hcur hsz hGm
    go_enter Try.func75, Try.ntmps75
    go_wp2_with (at_builtin; refine Lib.wpList_append_run _ rfl _ _ _ _ rfl _ _ rfl rfl _ _ (hrz _) ?_)
    all_goals
      go_ret
      refine ⟨_, rfl, ⟨rfl, .inr ⟨w.heap.size, G, cur, rfl, Nat.le_refl _, blk_new w.drew _, by omega, HGM.out, by rw [HSZ.out, Nat.mul_one], by simp⟩⟩, below_alloc (below_drew1 (Below.refl _ _)) _⟩
theorem own_formG {w : World} {base n : Nat} {e : TypeId} {size : Nat} {v : Value} {xs : List Value} (h : w.ownsRow base e size v n xs) : ∃ A c, v = .slice A n c := by
  obtain ⟨_, ⟨rfl, rfl⟩ | ⟨g, cap, cur, rfl, _⟩⟩ := h
  · exact ⟨_, _, rfl⟩
  · exact ⟨_, _, rfl⟩
abbrev Rw := Option Addr × Nat × List Int
def rwV (r : Rw) : Value := .slice r.1 r.2.2.length r.2.1
def rwAll (rs : List Rw) : List Int := (rs.map (fun r => r.2.2)).flatten
theorem rwAll_snoc (rs : List Rw) (j : Nat) (r : Rw) (h : rs[j]? = some r) : rwAll (rs.take (j + 1)) = rwAll (rs.take j) ++ r.2.2 := by
  unfold rwAll
  rw [List.take_add_one, h]
  simp
theorem rwAll_take_le (rs : List Rw) (j : Nat) : (rwAll (rs.take j)).length ≤ (rwAll rs).length := by
  have h : rwAll rs = rwAll (rs.take j) ++ rwAll (rs.drop j) := by
    unfold rwAll
    rw [← List.flatten_append, ← List.map_append, List.take_append_drop]
  rw [h, List.length_append]
  omega
theorem dg_info : (Try.prog.info? 5).map (fun i => (i.zero, i.size, i.bytes)) = some (some (.int .u8 0), 1, 1) := by kernel_rfl
set_option maxHeartbeats 8000000 in
set_option maxRecDepth 100000 in
theorem dg_concat (gb : Nat) (rs : List Rw) (w : World) (hg : w.heap[gb]? = some (.cells (rs.map rwV).toArray 25 (0, 0))) (hC : ∀ r ∈ rs, Kd.C (Kd.int .u8) w r.1 r.2.2.length r.2.2 ∧ r.2.2.length ≤ r.2.1) (hn : rs.length ≤ 1000) (hl : (rwAll rs).length ≤ 1000000000) :
    Calls Try.prog 66 #[.slice (some ⟨gb, 0, none⟩) rs.length rs.length] w fun e w' => ∃ v, e = .returned v ∧ w'.ownsRow w.heap.size 5 1 v (rwAll rs).length (nums .u8 (rwAll rs)) ∧ Below w.heap.size w w' := by
  have HG := Aside0.mk hg
  have HC := Aside0.mk hC
  have HL := Aside0.mk hl
  have HLT := Aside0.mk (blk_lt hg)
  have HGR := Aside0.mk (dg_grow (rwAll rs).length w (by omega))
  clear hg hC hl
  go_enter Try.func66, Try.ntmps66
  go_wp2
  go_loopw [3, 11] (fun v3 v11 wr => ∃ j : Nat, v3 = .int .i64 ((rwAll (rs.take j)).length : Int) ∧ v11 = .int .i64 j ∧ j ≤ rs.length ∧ wr = w) (fun _ v11 _ => rs.length - (RowKit.intOf v11).toNat)
  case atStart => exact ⟨0, rfl, rfl, by omega, rfl⟩
  case round =>
    obtain ⟨j, rfl, rfl, hj, hwr⟩ := hrel
    have hwr := hwr.symm
    subst hwr
    by_cases hc : j < rs.length
    · have q1 : decide ((j : Int) < (rs.length : Int)) = true := decide_eq_true (by omega)
      obtain ⟨r, hr⟩ : ∃ r, rs[j]? = some r := ⟨_, List.getElem?_eq_getElem hc⟩
      have cj : w.cell? ⟨gb, j, none⟩ = some (.slice r.1 r.2.2.length r.2.1) := by rw [blk_cell HG.out j]; simp [hr, rwV]
      have hsn := rwAll_snoc rs j r hr
      have hle := rwAll_take_le rs (j + 1)
      have hlen : (rwAll (rs.take (j + 1))).length = (rwAll (rs.take j)).length + r.2.2.length := by rw [hsn, List.length_append]
      have hl := HL.out
      obtain ⟨m, hm⟩ : ∃ m, m = (rwAll (rs.take j)).length := ⟨_, rfl⟩
      obtain ⟨rl, hrl⟩ : ∃ rl, rl = r.2.2.length := ⟨_, rfl⟩
      rw [← hm, ← hrl] at hlen
      rw [← hrl] at cj
      rw [← hm]
      have hw1 : IntKind.i64.wrap ((m : Int) + (rl : Int)) = (m : Int) + (rl : Int) := IntWalk.i64_in _ (by omega)
      have hw2 : IntKind.i64.wrap ((j : Int) + 1) = (j : Int) + 1 := IntWalk.i64_in _ (by omega)
      have q2 : decide ((m : Int) + (rl : Int) < 0) = false := decide_eq_false (by omega)
      have e1 : (0 : Int) ≤ (j : Int) := by omega
      have e2 : ((j : Int)).toNat = j := rfl
      have HLEN := Aside0.mk hlen
      clear hsn hle hlen hl hm hrl hj
      go_wp2
      go_roundw
      case rel => exact ⟨j + 1, by rw [HLEN.out]; rfl, by go_num, by omega, trivial⟩
      case measure => simp [RowKit.intOf]; omega
    · have q1 : decide ((j : Int) < (rs.length : Int)) = false := decide_eq_false (by omega)
      obtain rfl : j = rs.length := by omega
      rw [List.take_length]
      obtain ⟨m, hm⟩ : ∃ m, m = (rwAll rs).length := ⟨_, rfl⟩
      have HM := Aside0.mk hm
      rw [← hm] at HGR ⊢
      clear hm hj
      go_wp2_with fail
      refine HGR.out.mono ?_
      rintro e W1 ⟨v, rfl, ho, hb⟩
      have HO := Aside0.mk ho
      have HB := Aside0.mk hb
      clear ho hb HGR
      go_wp2
      go_loopw [6, 27] (fun v6 v27 w2 => ∃ j : Nat, v27 = .int .i64 j ∧ j ≤ rs.length ∧ Aside0 (w2.ownsRow w.heap.size 5 1 v6 (rwAll (rs.take j)).length (nums .u8 (rwAll (rs.take j)))) ∧ Aside0 (Below w.heap.size w w2)) (fun _ v27 _ => rs.length - (RowKit.intOf v27).toNat)
      case atStart => exact ⟨0, rfl, by omega, HO, HB⟩
      case round =>
        clear HO HB q1 hc
        obtain ⟨j, rfl, hj, HO, HB⟩ := hrel
        by_cases hc : j < rs.length
        · have q1 : decide ((j : Int) < (rs.length : Int)) = true := decide_eq_true (by omega)
          obtain ⟨r, hr⟩ : ∃ r, rs[j]? = some r := ⟨_, List.getElem?_eq_getElem hc⟩
          have cj : wr.cell? ⟨gb, j, none⟩ = some (.slice r.1 r.2.2.length r.2.1) := by
            rw [(HB.out.cell (p := ⟨gb, j, none⟩) HLT.out), blk_cell HG.out j]; simp [hr, rwV]
          have hsn := rwAll_snoc rs j r hr
          have hle := rwAll_take_le rs (j + 1)
          rw [hsn, List.length_append] at hle
          have hle2 : (rwAll (rs.take j)).length + r.2.2.length ≤ 1000000000 := by have := HL.out; omega
          have HCr := Aside0.mk (Kd.C_below (HC.out r (List.mem_of_getElem? hr)).1 HB.out)
          have hw2 : IntKind.i64.wrap ((j : Int) + 1) = (j : Int) + 1 := IntWalk.i64_in _ (by omega)
          have e1 : (0 : Int) ≤ (j : Int) := by omega
          have e2 : ((j : Int)).toNat = j := rfl
          have HSN := Aside0.mk hsn
          have HLE := Aside0.mk hle2
          have HSZ := Aside0.mk (show w.heap.size ≤ wr.heap.size from HB.out.size)
          obtain ⟨Av, cv, rfl⟩ := own_formG HO.out
          clear hsn hle hle2 hj hr
          go_wp2_with (first | ((with_reducible refine gate_builtin (b := .append) (xs := #[.tmp 31, .tmp 32]) rfl ?_); at_builtin; refine print_append_row (w0 := w) w.heap.size rfl (.tmp 31) (.tmp 32) 25 5 .u8 1 rfl Try.underlying25 dg_info (by decide) _ (rwAll (rs.take j)) r.2.2 r.1 r.2.2.length r.2.1 rfl rfl HO.out (Kd.reads_of_C HCr.out) HB.out HSZ.out (by have := HLE.out; omega) ?_; intro v2 w2 ho2 hb2 hg2 hat2; rw [← HSN.out] at ho2; have HO5 := Aside0.mk ho2; have HB5 := Aside0.mk hb2; clear ho2 hb2 hg2 hat2))
          go_roundw
          case rel => exact ⟨j + 1, by go_num, by omega, HO5, HB5⟩
          case measure => simp [RowKit.intOf]; omega
        · have q1 : decide ((j : Int) < (rs.length : Int)) = false := decide_eq_false (by omega)
          obtain rfl : j = rs.length := by omega
          have ho := HO.out
          rw [List.take_length] at ho
          have HO2 := Aside0.mk ho
          clear ho HO hj
          go_wp2
          go_ret
          exact ⟨_, rfl, HO2.out, HB.out⟩
end Go.Proofs.Ytcdephhplmcmjaa.X
end

section
namespace Go.Proofs.Ytcdephhplmcmjaa.X
open Go.RowKit Go.Proofs.YtcdephhplmcmjaaW.PrintWords Go.Proofs.YtcdephhplmcmjaaW.PrintLast Go.Proofs.YtcdephhplmcmjaaW.PrintMore
set_option linter.unusedVariables false
set_option linter.unusedSimpArgs false
def difW (least x : Int) : Int := wrap64 (x - least)
def W64 (x : Int) : Int := ((Lib.bitLen (IntKind.u64.wrap x).toNat : Nat) : Int)
def rowW (least : Int) (xs : List Int) : List Int := xs.map (difW least) ++ List.replicate (32 - xs.length) 0
def topW (least : Int) (xs : List Int) : Int := xs.foldl (fun m x => max m (W64 (difW least x))) 0
def cutW (d : List Int) (i : Nat) : List Int := (d.drop (32 * i)).take 32
def laidP (k : Nat) (least : Int) (d : List Int) : Nat → Nat → List Int → List Int → Option (List Int × List Int)
  | 0, _, _, _ => none
  | n + 1, i, ws, ps => if 32 * i < d.length then (delta_Pack.f k (topW least (cutW d i)) (rowW least (cutW d i))).bind fun p => if (ps ++ p).length ≤ 100000 then laidP k least d n (i + 1) (ws ++ [topW least (cutW d i) % 256]) (ps ++ p) else none
    else some (ws, ps)
def laidF (k : Nat) (out d : List Int) : Option (List Int) :=
  (slices_Min_int64_int64.f d).bind fun least => (delta_signed.f k out least).bind fun o2 => if o2.length ≤ 100000000 then (laidP k least d 5 0 [] []).bind fun q => some (o2 ++ (q.1 ++ List.replicate (4 - q.1.length) 0) ++ q.2) else none
theorem W64_f (k : Nat) (x : Int) : delta_Width.f x = some (W64 x) := by
  unfold delta_Width.f bits_Len64.f
  have h : 0 ≤ IntKind.u64.wrap x ∧ IntKind.u64.wrap x ≤ 18446744073709551615 := by rw [IntKind.wrap_u64]; omega
  rw [if_pos h]
  rfl
def difsW (least : Int) (xs : List Int) (j : Nat) : List Int := (xs.take j).map (difW least) ++ List.replicate (32 - j) 0
theorem rd_get (xs : List Int) (j : Nat) (h : j < xs.length) : xs[j]? = some (rd xs (j : Int)) := by
  show xs[j]? = some (xs.getD j 0)
  rw [List.getD_eq_getElem?_getD, List.getElem?_eq_getElem h]; rfl
theorem topW_snoc (least : Int) (xs : List Int) (j : Nat) (h : j < xs.length) : topW least (xs.take (j + 1)) = max (topW least (xs.take j)) (W64 (difW least (rd xs (j : Int)))) := by
  unfold topW
  rw [List.take_add_one, rd_get xs j h, Option.toList_some, List.foldl_append]
  rfl
theorem difsW_len (least : Int) (xs : List Int) (j : Nat) (h : j < xs.length) (hj : j < 32) : (difsW least xs j).set j (difW least (rd xs (j : Int))) = difsW least xs (j + 1) := by
  have e : 32 - j = (32 - (j + 1)) + 1 := by omega
  have hl : ((xs.take j).map (difW least)).length = j := by simp; omega
  unfold difsW
  rw [List.take_add_one, rd_get xs j h, Option.toList_some, e, List.replicate_succ, List.map_append, List.set_append_right _ _ (by omega), hl, Nat.sub_self, List.set_cons_zero, List.append_assoc]
  rfl
theorem rowW_length (least : Int) (xs : List Int) (h : xs.length ≤ 32) : (rowW least xs).length = 32 := by simp [rowW]; omega
theorem c_block {k : IntKind} {w : World} {g : Nat} {t : TypeId} {xs : List Int} (h : w.heap[g]? = some (.cells (xs.map (Value.int k)).toArray t (0, 0))) (hn : xs.length ≤ 9223372036854775807) : Kd.C (Kd.int k) w (some ⟨g, 0, none⟩) xs.length xs :=
  Kd.C_of_reads (h1 := fun _ => rfl) (enc := Value.int k) (d := 0) ⟨rfl, hn, fun _ => ⟨_, rfl, fun j hj => by
    have e : (⟨g, 0, none⟩ : Addr).add j = ⟨g, j, none⟩ := by unfold Addr.add; split <;> simp_all
    rw [e, blk_cell h j]
    simp [List.getD_eq_getElem?_getD, List.getElem?_eq_getElem hj]⟩⟩
theorem calls_namedW {P : Program} {f : FuncId} {args : Array Value} {w : World} {R : Ending → World → Prop} (h : ∀ W, W = w → Calls P f args W R) : Calls P f args w R := h _ rfl
theorem own_belowW {W W1 : World} {base n size : Nat} {e : TypeId} {v : Value} {xs : List Value} (h : W.ownsRow base e size v n xs) (hb : Below W.heap.size W W1) : W1.ownsRow base e size v n xs :=
  own_other h (row := some (W.heap.size + 0)) ⟨hb.os, hb.tape, hb.output, hb.size, fun k hk _ => hb.block k hk⟩ (Or.inr (own_ne_new h 0).symm)
theorem own_monoW {W : World} {base base' n size : Nat} {e : TypeId} {v : Value} {xs : List Value} (h : W.ownsRow base e size v n xs) (hb : base' ≤ base) : W.ownsRow base' e size v n xs := by
  obtain ⟨h1, h2⟩ := h
  exact ⟨h1, h2.imp id (fun ⟨g, cap, cur, e, hb', r⟩ => ⟨g, cap, cur, e, Nat.le_trans hb hb', r⟩)⟩
theorem widths_set (ws : List Int) (i : Nat) (y : Int) (h : ws.length = i) (hi : i < 4) : (ws ++ List.replicate (4 - i) (0 : Int)).set i y = (ws ++ [y]) ++ List.replicate (4 - (i + 1)) 0 := by
  have e : 4 - i = (4 - (i + 1)) + 1 := by omega
  rw [e, List.replicate_succ, List.set_append_right _ _ (by omega), h, Nat.sub_self, List.set_cons_zero, List.append_assoc]
  rfl
theorem wp_namedW {P : Program} {Q : Exit → Act → World → Prop} {a : Act} {w : World} {c : Code} (h : ∀ W, W = w → c.wp P Q a W) : c.wp P Q a w := h _ rfl
def zeros32 : List Int := List.replicate 32 0
theorem print_makeZ : ∀ W : World, (Instr.makeSlice 44 (.int .i64 32) (.int .i64 32)).run Try.prog W = .ok (.slice (some ⟨W.heap.size, 0, none⟩) 32 32) (W.alloc (.cells (zeros32.map (Value.int .i64)).toArray 2)) := by
  intro W
  kernel_rfl
set_option maxRecDepth 100000 in
set_option maxHeartbeats 16000000 in
theorem dw_laid (k : Nat) (P0 : Nat → Prop) (v : Value) (out d r : List Int) (A : Option Addr) (c : Nat) (w0 w : World) (hB : Below w0.heap.size w0 w) (ho : Kd.R (Kd.int .u8) 5 w w0.heap.size P0 v out) (hd : ∀ W', Kept w W' P0 → Kd.C (Kd.int .i64) W' A d.length d) (hc : d.length ≤ c) (hn : d.length ≤ 128) (h : laidF k out d = some r) :
    Calls Try.prog 43 #[v, .slice A d.length c] w fun e w' => ∃ v', e = .returned v' ∧ Kd.R (Kd.int .u8) 5 w' w0.heap.size (fun j => P0 j ∨ w.heap.size ≤ j) v' r ∧ Below w0.heap.size w0 w' ∧ Kept w w' P0 := by
  unfold laidF at h
  obtain ⟨least, hmin, h⟩ := Option.bind_eq_some_iff.1 h
  obtain ⟨o2, hsg, h⟩ := Option.bind_eq_some_iff.1 h
  have ho2 : o2.length ≤ 100000000 := by
    by_cases e : o2.length ≤ 100000000
    · exact e
    · rw [if_neg e] at h; cases h
  rw [if_pos ho2] at h
  obtain ⟨q, hq, h⟩ := Option.bind_eq_some_iff.1 h
  obtain rfl := Option.some.inj h
  have HMIN := Aside0.mk (slices_Min_int64_int64.calls A c d least w (hd w (Kept.refl _ _)) hc hmin)
  have HSG := Aside0.mk (fun (Wz : World) (hb : Below w0.heap.size w0 Wz) (hr : Kd.R (Kd.int .u8) 5 Wz w0.heap.size P0 v out) => delta_signed.calls k P0 v out least o2 w0 Wz hb hr hsg)
  have HB := Aside0.mk hB
  have HO := Aside0.mk ho
  have HD := Aside0.mk hd
  have HQ := Aside0.mk hq
  have HO2 := Aside0.mk ho2
  obtain ⟨Av, cv, rfl⟩ := own_formG (Kd.R_own ho).choose_spec
  have HCc := Aside0.mk hc
  clear hmin hsg hq h hB ho hd ho2 hc
  go_enter Try.func43, Try.ntmps43
  go_wp2_with fail
  refine HMIN.out.mono ?_
  rintro e W1 ⟨rfl, ⟨nd, rfl⟩⟩
  clear HMIN
  go_wp2_with fail
  refine (HSG.out _ (pw_below_drewN HB.out nd) (Kd.R_drewN HO.out nd)).mono ?_
  rintro e W2 ⟨v2, rfl, hR2, hB2, hK2⟩
  have HR2 := Aside0.mk hR2
  have HB2 := Aside0.mk hB2
  have HK2 := Aside0.mk (show Kept w W2 P0 from hK2)
  obtain ⟨A2, c2, rfl⟩ := own_formG (Kd.R_own hR2).choose_spec
  have HC2 := Aside0.mk (HD.out W2 (show Kept w W2 P0 from hK2))
  clear hR2 hB2 hK2 HSG HB HO HD
  go_wp2
  refine wp_namedW fun W3 hW3 => ?_
  obtain ⟨gw, hgw⟩ : ∃ gw, gw = W2.heap.size := ⟨_, rfl⟩
  rw [← hgw]
  have HA3 := Aside0.mk (show W3.heap[gw]? = some (.cells ((([] : List Int) ++ List.replicate (4 - 0) 0).map (Value.int .u8)).toArray 97 (0, 0)) from (by rw [hW3, hgw]; exact blk_new _ _))
  have HB3 := Aside0.mk (show Below W2.heap.size W2 W3 from (by rw [hW3]; exact below_alloc (Below.refl _ _) _))
  have HGW := Aside0.mk hgw
  have HO3 := Aside0.mk (World.ownsRow_nil W3 W2.heap.size 5 1)
  have hmk := print_makeZ
  clear hW3 hgw
  go_loopw [6, 8, 9] (fun v6 v8 v9 wr => ∃ (n i : Nat) (ws ps : List Int), v8 = .int .i64 i ∧ v9 = .int .i64 ((32 * i : Nat) : Int) ∧ i ≤ 4 ∧ Aside0 (ws.length = i ∧ i + n = 5 ∧ ps.length ≤ 100000) ∧ Aside0 (laidP k least d n i ws ps = some q) ∧ Aside0 (wr.heap[gw]? = some (.cells ((ws ++ List.replicate (4 - i) 0).map (Value.int .u8)).toArray 97 (0, 0))) ∧ Aside0 (wr.ownsRow W2.heap.size 5 1 v6 ps.length (nums .u8 ps)) ∧ Aside0 (Below W2.heap.size W2 wr)) (fun _ v8 _ _ => 5 - (intOf v8).toNat)
  case atStart => exact ⟨5, 0, [], [], rfl, rfl, by omega, ⟨rfl, rfl, by simp⟩, HQ, HA3, HO3, HB3⟩
  case round =>
    clear HQ HA3 HO3 HB3
    obtain ⟨n, i, ws, ps, rfl, rfl, hi, HI, HQ, HA, HO, HB⟩ := hrel
    obtain ⟨Ap, cp, rfl⟩ := own_formG HO.out
    by_cases hc : 32 * i < d.length
    · obtain ⟨m, hm⟩ : ∃ m, m = 32 * i := ⟨_, rfl⟩
      rw [← hm]
      rw [← hm] at hc
      have q1 : decide ((m : Int) < (d.length : Int)) = true := decide_eq_true (by omega)
      obtain ⟨b, hb⟩ : ∃ b : Nat, b = min d.length (m + 32) := ⟨_, rfl⟩
      obtain ⟨i0, hi0, _, hsz0, _⟩ := info_parts info2
      obtain ⟨A3, hcut, hDd, hC3⟩ := print_mid_int (k := .i64) 44 2 Try.underlying44 hi0 hsz0 A c d (m : Int) (b : Int) (by omega) (by omega) (by omega) HCc.out
      have hxs : (d.take ((b : Int)).toNat).drop ((m : Int)).toNat = cutW d i := by
        unfold cutW
        rw [Int.toNat_natCast, Int.toNat_natCast, List.drop_take, ← hm]
        apply List.ext_getElem?
        intro z
        simp only [List.getElem?_take, List.getElem?_drop]
        by_cases hz : z < 32
        · by_cases hz2 : z < b - m
          · rw [if_pos hz2, if_pos hz]
          · rw [if_neg hz2, if_pos hz]
            rw [List.getElem?_eq_none (by omega)]
        · rw [if_neg (by omega), if_neg hz]
      rw [hxs] at hcut hDd hC3
      obtain ⟨xs, hxs2⟩ : ∃ xs, xs = cutW d i := ⟨_, rfl⟩
      rw [← hxs2] at hcut hDd hC3
      have hxl : xs.length ≤ 32 := by rw [hxs2]; unfold cutW; rw [List.length_take]; omega
      have hw1 : IntKind.i64.wrap ((m : Int) + 32) = (m : Int) + 32 := IntWalk.i64_in _ (by omega)
      have hmn : min (d.length : Int) ((m : Int) + 32) = (b : Int) := by omega
      have HX := Aside0.mk (Kd.C_of_reads (h1 := fun _ => rfl) (hDd _ (Kd.reads_of_C (Kd.C_below HC2.out HB.out))))
      have HM := Aside0.mk (And.intro hm (And.intro hxs2 (And.intro hxl hc)))
      clear hDd hxs hxs2 hb hi hC3 hm h
      go_wp2
      refine wp_namedW fun W4 hW4 => ?_
      obtain ⟨gl, hgl⟩ : ∃ gl, gl = wr.heap.size := ⟨_, rfl⟩
      rw [← hgl]
      have HL4 := Aside0.mk (show W4.heap[gl]? = some (.cells ((difsW least xs 0).map (Value.int .i64)).toArray 2 (0, 0)) from (by rw [hW4, hgl]; exact blk_new _ _))
      have HB4 := Aside0.mk (show Below wr.heap.size wr W4 from (by rw [hW4]; exact below_alloc (Below.refl _ _) _))
      have HGL := Aside0.mk hgl
      clear hW4 hgl
      obtain ⟨wo, hwo⟩ : ∃ wo, wo = wr := ⟨_, rfl⟩
      subst hwo
      go_loopw [11, 37] (fun v11 v37 w2 => ∃ j : Nat, v11 = .int .i64 (topW least (xs.take j)) ∧ v37 = .int .i64 j ∧ j ≤ xs.length ∧ Aside0 (w2.heap[gl]? = some (.cells ((difsW least xs j).map (Value.int .i64)).toArray 2 (0, 0))) ∧ Aside0 (Below wo.heap.size wo w2)) (fun _ v37 _ => xs.length - (RowKit.intOf v37).toNat)
      case atStart => exact ⟨0, rfl, rfl, by omega, HL4, HB4⟩
      case round =>
        clear HL4 HB4
        obtain ⟨j, rfl, rfl, hj, HL, HB5⟩ := hrel
        by_cases hc2 : j < xs.length
        · have q2 : decide ((j : Int) < (xs.length : Int)) = true := decide_eq_true (by omega)
          obtain ⟨ad, had, hcell⟩ := c_at (Kd.C_below HX.out HB5.out) ((j : Int)) (by omega) (by omega)
          subst had
          rw [show ((j : Int)).toNat = j from rfl] at hcell
          obtain ⟨x, hx⟩ : ∃ x, x = rd xs (j : Int) := ⟨_, rfl⟩
          rw [← hx] at hcell
          obtain ⟨tp, htp⟩ : ∃ tp, tp = topW least (xs.take j) := ⟨_, rfl⟩
          rw [← htp]
          have hj32 : j < 32 := by omega
          have cA : wr.cell? ⟨gl, j, none⟩ = some (.int .i64 0) := by
            rw [blk_cell HL.out j]
            simp [difsW, List.getElem?_append, List.getElem?_replicate, List.length_take, Nat.min_eq_left hj]
            omega
          have fA : wr.frozen? ⟨gl, j, none⟩ = false := blk_frozen HL.out j
          have f1 : (0 : Int) ≤ (j : Int) := by omega
          have f2 : ((j : Int)).toNat = j := rfl
          have f3 : (j : Int) < 32 := by omega
          have hw2 : IntKind.i64.wrap ((j : Int) + 1) = (j : Int) + 1 := IntWalk.i64_in _ (by omega)
          have HJ := Aside0.mk (And.intro hx (And.intro htp hj))
          clear hx htp hj
          go_wp2_with fail
          refine (delta_sub.stays x least wr).mono ?_
          rintro e w3 ⟨rfl, hw3⟩
          obtain ⟨y, hy⟩ : ∃ y, y = wrap64 (x - least) := ⟨_, rfl⟩
          rw [← hy]
          have HY := Aside0.mk hy
          have hw3 := hw3.symm
          subst hw3
          clear hy
          go_wp2_with fail
          refine (delta_Width.calls y (W64 y) _ (W64_f k y)).mono ?_
          rintro e w5 ⟨rfl, ⟨nd, rfl⟩⟩
          go_wp2
          go_roundw
          case rel =>
            obtain ⟨hx, htp, hj⟩ := HJ.out
            refine ⟨j + 1, ?_, by go_num, by omega, ⟨?_⟩, ⟨?_⟩⟩
            · rw [topW_snoc least xs j hc2, ← htp, ← hx]
              rw [HY.out]; rfl
            · have h1 := blk_set HL.out j (Value.int .i64 y)
              have h2 := difsW_len least xs j hc2 hj32
              rw [← hx] at h2
              rw [← h2]
              have e : ((List.map (Value.int .i64) (difsW least xs j)).toArray.setIfInBounds j (Value.int .i64 y)) = (List.map (Value.int .i64) ((difsW least xs j).set j (difW least x))).toArray := by
                rw [HY.out, List.map_set]; simp [difW]
              rw [← e]
              exact h1
            · exact pw_below_drewN (HB5.out.setCell (by have := HGL.out; simp only []; omega) _) nd
          case measure => simp [RowKit.intOf]; omega
        · have q2 : decide ((j : Int) < (xs.length : Int)) = false := decide_eq_false (by omega)
          obtain rfl : j = xs.length := by omega
          rw [List.take_length]
          have hc4 : i < 4 := by have := HM.out.2.2.2; have := HM.out.1; omega
          have cA : wr.cell? ⟨gw, i, none⟩ = some (.int .u8 0) := by
            have h1 := HI.out.1
            rw [blk_cell (blk_below HA.out HB5.out) i]
            simp [List.getElem?_append, List.getElem?_replicate, h1]
            omega
          have fA : wr.frozen? ⟨gw, i, none⟩ = false := blk_frozen (blk_below HA.out HB5.out) i
          have f1 : (0 : Int) ≤ (i : Int) := by omega
          have f2 : ((i : Int)).toNat = i := rfl
          have f3 : (i : Int) < 4 := by omega
          have hw2 : IntKind.i64.wrap ((i : Int) + 1) = (i : Int) + 1 := IntWalk.i64_in _ (by omega)
          obtain ⟨tp, htp⟩ : ∃ tp, tp = topW least xs := ⟨_, rfl⟩
          rw [← htp]
          have HT := Aside0.mk (And.intro htp hc4)
          obtain ⟨n', rfl⟩ : ∃ n', n = n' + 1 := ⟨n - 1, by have := HI.out.2.1; omega⟩
          have hq := HQ.out
          obtain ⟨hm1, hm2, hm3, hm4⟩ := HM.out
          rw [laidP, if_pos (by omega), ← hm2, ← htp] at hq
          obtain ⟨p, hp, hq⟩ := Option.bind_eq_some_iff.1 hq
          have hpl : (ps ++ p).length ≤ 100000 := by
            by_cases e : (ps ++ p).length ≤ 100000
            · exact e
            · rw [if_neg e] at hq; cases hq
          rw [if_pos hpl] at hq
          have HQ2 := Aside0.mk hq
          have HPL := Aside0.mk hpl
          have HLT := Aside0.mk (blk_lt HA.out)
          have hrl := rowW_length least xs hm3
          obtain ⟨l, hl⟩ : ∃ l, l = rowW least xs := ⟨_, rfl⟩
          have hll : wr.heap[gl]? = some (.cells (l.map (Value.int .i64)).toArray 2 (0, 0)) := by
            have h1 := HL.out
            unfold difsW at h1
            rw [List.take_length] at h1
            rw [hl]; exact h1
          have HLL := Aside0.mk hll
          rw [← hl] at hp hrl
          have HP0 := fun (Wz : World) (hC : Kd.C (Kd.int .i64) Wz (some ⟨gl, 0, none⟩) l.length l) => delta_Pack.calls k tp (some ⟨gl, 0, none⟩) 32 l p Wz hC (by omega) hp
          rw [hrl] at HP0
          have HP := Aside0.mk HP0
          clear HP0
          have HRL := Aside0.mk hrl
          clear htp hj hc4 hq hm1 hm2 hm3 hm4 hp hpl hrl hl hll HL HQ
          go_wp2_with fail
          refine calls_namedW fun W6 hW6 => ?_
          have h6l := blk_far HLL.out (p := ⟨gw, i, none⟩) (by have := HGL.out; have := HLT.out; simp only []; omega) (Value.int .u8 (tp % 256))
          have h6a := blk_set (blk_below HA.out HB5.out) i (Value.int .u8 (tp % 256))
          have h6o := own_belowW HO.out HB5.out
          have h6o := own_setCell (p := ⟨gw, i, none⟩) h6o (own_ne h6o (blk_below HA.out HB5.out) (by decide)) (Value.int .u8 (tp % 256))
          have h6b := (below_step HB.out HB5.out).setCell (p := ⟨gw, i, none⟩) (by have := HGW.out; simp only []; omega) (Value.int .u8 (tp % 256))
          rw [← hW6] at h6l h6a h6o h6b
          have hC6 := c_block h6l (by have := HRL.out; omega)
          rw [HRL.out] at hC6
          refine (HP.out W6 hC6).mono ?_
          rintro e W7 ⟨v7, rfl, hR7, hB7⟩
          obtain ⟨Aq, cq, rfl⟩ := own_formG (Kd.R_own hR7).choose_spec
          have HC7 := Aside0.mk (Kd.reads_of_C (d := 0) (Kd.R_reads' hR7).2.2)
          have HA7 := Aside0.mk (blk_below h6a hB7)
          have HO7 := Aside0.mk (own_belowW h6o hB7)
          have HB7 := Aside0.mk (below_step h6b hB7)
          have HSZ := Aside0.mk (show W2.heap.size ≤ W7.heap.size from HB7.out.size)
          clear h6l h6a h6o h6b hR7 hB7 hW6 cA fA HP HA HO HB HB5 HLL
          go_wp2_with (first | ((with_reducible refine gate_builtin (b := .append) (xs := #[.tmp 60, .tmp 63]) rfl ?_); at_builtin; refine print_append_row (w0 := W2) W2.heap.size rfl (.tmp 60) (.tmp 63) 25 5 .u8 1 rfl Try.underlying25 dg_info (by decide) _ ps p Aq p.length cq rfl rfl HO7.out HC7.out HB7.out HSZ.out (by have := HPL.out; rw [List.length_append] at this; omega) ?_; intro v8 w8 ho8 hb8 hg8 hat8; have HO8 := Aside0.mk ho8; have HB8 := Aside0.mk hb8; have HG8 := Aside0.mk hg8; clear ho8 hb8 hg8 hat8))
          go_roundw
          case rel =>
            obtain ⟨hi1, hi2, hi3⟩ := HI.out
            obtain ⟨ht1, ht2⟩ := HT.out
            refine ⟨n', i + 1, ws ++ [tp % 256], ps ++ p, by go_num, ?_, by omega, ⟨⟨by simp; omega, by omega, HPL.out⟩⟩, ⟨HQ2.out⟩, ⟨?_⟩, HO8, HB8⟩
            · have := HM.out.1
              rw [this]
              first | (congr 1; omega) | rfl
            · have h1 := blk_grown HA7.out HG8.out (own_ne HO7.out HA7.out (by decide))
              rw [← widths_set ws i (tp % 256) hi1 ht2]
              have e : ((List.map (Value.int .u8) (ws ++ List.replicate (4 - i) 0)).toArray.setIfInBounds i (Value.int .u8 (tp % 256))) = (List.map (Value.int .u8) ((ws ++ List.replicate (4 - i) 0).set i (tp % 256))).toArray := by
                rw [List.map_set]; simp
              rw [← e]
              exact h1
          case measure =>
            have := HT.out.2
            simp [RowKit.intOf]; omega
    · obtain ⟨m, hm⟩ : ∃ m, m = 32 * i := ⟨_, rfl⟩
      rw [← hm]
      rw [← hm] at hc
      have q1 : decide ((m : Int) < (d.length : Int)) = false := decide_eq_false (by omega)
      have HM := Aside0.mk (And.intro hm hc)
      have hc' : (d.length : Int) ≤ (m : Int) := by omega
      clear hm h
      go_wp2_with fail
      obtain ⟨n', rfl⟩ : ∃ n', n = n' + 1 := ⟨n - 1, by have := HI.out.2.1; omega⟩
      have hq := HQ.out
      rw [laidP, if_neg (by have := HM.out; omega)] at hq
      obtain rfl := (Option.some.inj hq).symm
      refine calls_namedW fun W9 hW9 => ?_
      obtain ⟨gc, hgc⟩ : ∃ gc, gc = wr.heap.size := ⟨_, rfl⟩
      rw [← hgc]
      have hb9 : Below wr.heap.size wr W9 := by rw [hW9]; exact below_alloc (Below.refl _ _) _
      have hk9 : W9.heap[gc]? = some (.cells (([(A2, c2, o2), (some ⟨gw, 0, none⟩, 4, ws ++ List.replicate (4 - i) 0), (Ap, cp, ps)] : List Rw).map rwV).toArray 25 (0, 0)) := by
        have hl : (ws ++ List.replicate (4 - i) (0 : Int)).length = 4 := by have := HI.out.1; simp; omega
        rw [hW9, hgc]
        simp only [List.map_cons, List.map_nil, rwV, hl]
        exact blk_new _ _
      have hlen : (ws ++ List.replicate (4 - i) (0 : Int)).length = 4 := by have := HI.out.1; simp; omega
      have ho2 := Kd.R_reads' HR2.out
      have hcw := c_block HA.out (by rw [hlen]; decide)
      have hop := own_reads_of' (enc := Value.int .u8) (d := 0) HO.out
      have hopl := own_le HO.out
      have hcp := Kd.C_of_reads (h1 := fun _ => rfl) hop
      refine (dg_concat gc _ W9 hk9 ?_ (by simp) ?_).mono ?_
      · intro r hr
        simp only [List.mem_cons, List.not_mem_nil, or_false] at hr
        rcases hr with rfl | rfl | rfl
        · exact ⟨Kd.C_below (Kd.C_below ho2.2.2 HB.out) hb9, ho2.2.1⟩
        · exact ⟨Kd.C_below hcw hb9, by simp only [hlen]; omega⟩
        · exact ⟨Kd.C_below hcp hb9, hopl⟩
      · have := HO2.out; have := HI.out.2.2
        simp only [rwAll, List.map_cons, List.map_nil, List.flatten_cons, List.flatten_nil, List.length_append, List.length_nil]
        rw [← List.length_append, hlen]; omega
      · rintro e W10 ⟨v10, rfl, ho10, hb10⟩
        have hS2 : W2.heap.size ≤ wr.heap.size := HB.out.size
        have hS9 : wr.heap.size ≤ W9.heap.size := hb9.size
        have hBall : Below W2.heap.size W2 W10 := below_step (below_step HB.out hb9) hb10
        go_wp2
        go_ret
        have hrw : rwAll [(A2, c2, o2), (some ⟨gw, 0, none⟩, 4, ws ++ List.replicate (4 - i) 0), (Ap, cp, ps)] = o2 ++ (ws ++ List.replicate (4 - i) 0) ++ ps := by simp [rwAll, List.append_assoc]
        have hz1 : w0.heap.size ≤ W2.heap.size := HB2.out.size
        have hz2 : w.heap.size ≤ W2.heap.size := HK2.out.1
        have hwsl : ws.length = i := HI.out.1
        rw [hrw] at ho10
        refine ⟨v10, rfl, ?_, below_step HB2.out hBall, HK2.out.below hBall⟩
        simp only [List.append_assoc] at ho10 ⊢
        rw [hwsl]
        exact Kd.R_of_own (enc := Value.int .u8) (h1 := fun _ => rfl) (own_monoW (base := W9.heap.size) (base' := w0.heap.size) ho10 (by omega)) (fun k hk => Or.inr (by have := (World.ownsRow.lt ho10 k hk).1; omega))
end Go.Proofs.Ytcdephhplmcmjaa.X
end

section
namespace Go.Proofs.Ytcdephhplmcmjaa.X
open Go.RowKit Go.Proofs.YtcdephhplmcmjaaW.PrintWords Go.Proofs.YtcdephhplmcmjaaW.PrintLast Go.Proofs.YtcdephhplmcmjaaW.PrintMore
set_option linter.unusedVariables false
set_option linter.unusedSimpArgs false
theorem begin_no (p0 p1 p2 : Addr) (w : World) :
    CallsD Try.prog 76 #[.pointer (some p0), .pointer (some p1), .pointer (some p2)] .returning w fun e u' w' => (∃ v, e = .returned v) ∧ u' = .returning ∧ w' = w := by
  refine callsD_of_wpS Try.func76 rfl fun c₀ cs hu => ?_
  apply wpS_seq
  apply wpS_region
  simp [wpOpsS, go_sem, recoverD, hu, Try.ntmps76, Exit.thenS]
  refine wpS_of_wp ?_
  go_wp2_with fail
  cases c₀
  simp_all [bodyPostS, results, Try.results76]
theorem caught_set {g : Nat} {u0 u1 u2 : Value} {t0 t1 t2 : TypeId} {why : Int} {w w3 : World} (hB : Below g w w3) (b0 : w3.heap[g]? = some (.cells #[u0] t0 (0, 0))) (b1 : w3.heap[g + 1]? = some (.cells #[u1] t1 (0, 0))) (b2 : w3.heap[g + 2]? = some (.cells #[u2] t2 (0, 0))) :
    Below g w (((w3.setCell ⟨g, 0, none⟩ (.slice none 0 0)).setCell ⟨g + 1, 0, none⟩ (.int .i64 0)).setCell ⟨g + 2, 0, none⟩ (.int .i64 why)) ∧
      (((w3.setCell ⟨g, 0, none⟩ (.slice none 0 0)).setCell ⟨g + 1, 0, none⟩ (.int .i64 0)).setCell ⟨g + 2, 0, none⟩ (.int .i64 why)).heap[g]? = some (.cells #[.slice none 0 0] t0 (0, 0)) ∧
      (((w3.setCell ⟨g, 0, none⟩ (.slice none 0 0)).setCell ⟨g + 1, 0, none⟩ (.int .i64 0)).setCell ⟨g + 2, 0, none⟩ (.int .i64 why)).heap[g + 1]? = some (.cells #[.int .i64 0] t1 (0, 0)) ∧
      (((w3.setCell ⟨g, 0, none⟩ (.slice none 0 0)).setCell ⟨g + 1, 0, none⟩ (.int .i64 0)).setCell ⟨g + 2, 0, none⟩ (.int .i64 why)).heap[g + 2]? = some (.cells #[.int .i64 why] t2 (0, 0)) := by
  have e1 := blk_far b1 (p := ⟨g, 0, none⟩) (by simp) (.slice none 0 0)
  have e2 := blk_far b2 (p := ⟨g, 0, none⟩) (by simp) (.slice none 0 0)
  have e0 := blk_set b0 0 (.slice none 0 0)
  have f0 := blk_far e0 (p := ⟨g + 1, 0, none⟩) (by simp) (.int .i64 0)
  have f1 := blk_set e1 0 (.int .i64 0)
  have f2 := blk_far e2 (p := ⟨g + 1, 0, none⟩) (by simp) (.int .i64 0)
  exact ⟨((hB.setCell (by simp) _).setCell (by simp) _).setCell (by simp) _, blk_far f0 (p := ⟨g + 2, 0, none⟩) (by simp) _, blk_far f1 (p := ⟨g + 2, 0, none⟩) (by simp) _, blk_set f2 0 _⟩
theorem begin_assert (why : Int) (W : World) : (Instr.typeAssert (.iface 113 (.agg #[.int .i64 why])) 20 113 true).run Try.prog W = .ok (.tuple #[.agg #[.int .i64 why], .bool true]) W := by kernel_rfl
set_option maxRecDepth 100000 in
set_option maxHeartbeats 1000000 in
theorem begin_yes (g : Nat) (u0 u1 u2 : Value) (t0 t1 t2 : TypeId) (why : Int) (w : World) (h0 : w.heap[g]? = some (.cells #[u0] t0 (0, 0))) (h1 : w.heap[g + 1]? = some (.cells #[u1] t1 (0, 0))) (h2 : w.heap[g + 2]? = some (.cells #[u2] t2 (0, 0))) :
    CallsD Try.prog 76 #[.pointer (some ⟨g, 0, none⟩), .pointer (some ⟨g + 1, 0, none⟩), .pointer (some ⟨g + 2, 0, none⟩)] (.panicking (failP why)) w fun e u' w' =>
      (∃ v, e = .returned v) ∧ u' = .panicking [{ v := .iface 113 (.agg #[.int .i64 why]), recovered := true }] ∧ Below g w w' ∧ w'.heap[g]? = some (.cells #[.slice none 0 0] t0 (0, 0)) ∧ w'.heap[g + 1]? = some (.cells #[.int .i64 0] t1 (0, 0)) ∧ w'.heap[g + 2]? = some (.cells #[.int .i64 why] t2 (0, 0)) := by
  refine callsD_of_wpS Try.func76 rfl fun c₀ cs hu => ?_
  unfold failP at hu
  apply wpS_seq
  apply wpS_region
  simp [wpOpsS, go_sem, recoverD, hu, Try.ntmps76, Exit.thenS]
  refine wpS_of_wp ?_
  clear hu
  have ht := begin_assert why
  have e : (#[Value.pointer (some ⟨g, 0, none⟩), Value.pointer (some ⟨g + 1, 0, none⟩), Value.pointer (some ⟨g + 2, 0, none⟩)] ++ (Array.replicate 11 undef).setIfInBounds 3 (.iface 113 (.agg #[.int .i64 why]))) = #[Value.pointer (some ⟨g, 0, none⟩), Value.pointer (some ⟨g + 1, 0, none⟩), Value.pointer (some ⟨g + 2, 0, none⟩), undef, undef, undef, .iface 113 (.agg #[.int .i64 why]), undef, undef, undef, undef, undef, undef, undef] := rfl
  rw [e]
  clear e
  go_wp2_with fail
  refine wp_region_any (by kernel_rfl) ?_
  refine any_named fun w3 hw3 => ?_
  have hlt := blk_lt h2
  have b0 : w3.heap[g]? = some (.cells #[u0] t0 (0, 0)) := by rw [hw3]; exact blk_alloc h0 _
  have b1 : w3.heap[g + 1]? = some (.cells #[u1] t1 (0, 0)) := by rw [hw3]; exact blk_alloc h1 _
  have b2 : w3.heap[g + 2]? = some (.cells #[u2] t2 (0, 0)) := by rw [hw3]; exact blk_alloc h2 _
  have bf : w3.heap[w.heap.size]? = some (.cells #[.int .i64 why] 113 (0, 0)) := by rw [hw3]; exact blk_new _ _
  have HB := Aside0.mk (show Below g w w3 from (by rw [hw3]; exact below_drew1 ((below_alloc (Below.refl w.heap.size w) _).mono (by omega))))
  have B0 := Aside0.mk b0
  have B1 := Aside0.mk b1
  have B2 := Aside0.mk b2
  have e0 := blk_set b0 0 (.slice none 0 0)
  have e1 := blk_far b1 (p := ⟨g, 0, none⟩) (by simp) (.slice none 0 0)
  have e2 := blk_far b2 (p := ⟨g, 0, none⟩) (by simp) (.slice none 0 0)
  have ef := blk_far bf (p := ⟨g, 0, none⟩) (by simp; omega) (.slice none 0 0)
  have d2 := blk_far e2 (p := ⟨g + 1, 0, none⟩) (by simp) (.int .i64 0)
  have df := blk_far ef (p := ⟨g + 1, 0, none⟩) (by simp; omega) (.int .i64 0)
  have c0 := blk_cell b0 0
  have z0 := blk_frozen b0 0
  have c1 := blk_cell e1 0
  have z1 := blk_frozen e1 0
  have c2 := blk_cell d2 0
  have z2 := blk_frozen d2 0
  have cf0 := blk_cell bf 0
  have cf1 := blk_cell ef 0
  have cf2 := blk_cell df 0
  clear hw3 h0 h1 h2 b0 b1 b2 bf e0 e1 e2 ef d2 df
  refine wpAny_take (i := 0) (oi := { dst := some 12, op := Op.fieldAddr 113 (Operand.tmp 4) 0, type := 0, pos := "delta.go:212", after := #[{ on := 3, ground := Ground.gcOnly Departure.lateStores }], guard := none }) (v := .pointer (some ⟨w.heap.size, 0, none⟩)) rfl (by kernel_rfl) (by kernel_rfl) (by kernel_rfl) (fun _ _ _ h => h) (Or.inl ⟨by rfl, ?_⟩) ?_
  · (intro w; go_simp)
  try simp only [Act.put, List.setIfInBounds_toArray, List.set_cons_zero, List.set_cons_succ]
  refine wpAny_ready (rs := [1, 2]) (by kernel_rfl) (by simp) ?_
  refine AllReady.cons (o := { dst := some 13, op := Op.load 26 (Operand.tmp 12), type := 26, pos := "delta.go:212", after := #[{ on := 0, ground := Ground.data }, { on := 3, ground := Ground.gcOnly Departure.lateStores }], guard := none }) rfl (fun K hK => ?_) ?_
  · go_simp
    refine hK _ _ ?_
    clear hK K
    try simp only [Act.put, List.setIfInBounds_toArray, List.set_cons_zero, List.set_cons_succ]
    refine wpAny_ready (rs := [2]) (by kernel_rfl) (by simp) ?_
    refine AllReady.cons (o := { dst := none, op := Op.store 44 (Operand.tmp 0) (Operand.const (Value.slice none 0 0)), type := 0, pos := "delta.go:212", after := #[{ on := 0, ground := Ground.textOnly Departure.lateStores }, { on := 1, ground := Ground.textOnly Departure.lateStores }], guard := none }) rfl (fun K hK => ?_) ?_
    · go_simp
      refine hK _ _ ?_
      clear hK K
      try simp only [Act.put, List.setIfInBounds_toArray, List.set_cons_zero, List.set_cons_succ]
      refine wpAny_ready (rs := [3]) (by kernel_rfl) (by simp) ?_
      refine AllReady.cons (o := { dst := none, op := Op.store 3 (Operand.tmp 1) (Operand.const (Value.int IntKind.i64 0)), type := 0, pos := "delta.go:212", after := #[{ on := 2, ground := Ground.chain }, { on := 0, ground := Ground.textOnly Departure.lateStores }, { on := 1, ground := Ground.textOnly Departure.lateStores }, { on := 2, ground := Ground.phase }], guard := none }) rfl (fun K hK => ?_) ?_
      · go_simp
        refine hK _ _ ?_
        clear hK K
        try simp only [Act.put, List.setIfInBounds_toArray, List.set_cons_zero, List.set_cons_succ]
        refine wpAny_ready (rs := [4]) (by kernel_rfl) (by simp) ?_
        refine AllReady.cons (o := { dst := none, op := Op.store 26 (Operand.tmp 2) (Operand.tmp 13), type := 0, pos := "delta.go:212", after := #[{ on := 1, ground := Ground.data }, { on := 3, ground := Ground.chain }, { on := 0, ground := Ground.phase }, { on := 1, ground := Ground.phase }, { on := 2, ground := Ground.phase }, { on := 3, ground := Ground.phase }], guard := none }) rfl (fun K hK => ?_) ?_
        · go_simp
          refine hK _ _ ?_
          clear hK K
          try simp only [Act.put, List.setIfInBounds_toArray, List.set_cons_zero, List.set_cons_succ]
          refine wpAny_done (by kernel_rfl) ?_ _
          go_wp2_with fail
          cases c₀
          simp_all [bodyPostS, results, Try.results76]
          exact caught_set HB.out B0.out B1.out B2.out
        exact AllReady.nil
      exact AllReady.nil
    exact AllReady.nil
  refine AllReady.cons (o := { dst := none, op := Op.store 44 (Operand.tmp 0) (Operand.const (Value.slice none 0 0)), type := 0, pos := "delta.go:212", after := #[{ on := 0, ground := Ground.textOnly Departure.lateStores }, { on := 1, ground := Ground.textOnly Departure.lateStores }], guard := none }) rfl (fun K hK => ?_) ?_
  · go_simp
    refine hK _ _ ?_
    clear hK K
    try simp only [Act.put, List.setIfInBounds_toArray, List.set_cons_zero, List.set_cons_succ]
    refine wpAny_ready (rs := [1, 3]) (by kernel_rfl) (by simp) ?_
    refine AllReady.cons (o := { dst := some 13, op := Op.load 26 (Operand.tmp 12), type := 26, pos := "delta.go:212", after := #[{ on := 0, ground := Ground.data }, { on := 3, ground := Ground.gcOnly Departure.lateStores }], guard := none }) rfl (fun K hK => ?_) ?_
    · go_simp
      refine hK _ _ ?_
      clear hK K
      try simp only [Act.put, List.setIfInBounds_toArray, List.set_cons_zero, List.set_cons_succ]
      refine wpAny_ready (rs := [3]) (by kernel_rfl) (by simp) ?_
      refine AllReady.cons (o := { dst := none, op := Op.store 3 (Operand.tmp 1) (Operand.const (Value.int IntKind.i64 0)), type := 0, pos := "delta.go:212", after := #[{ on := 2, ground := Ground.chain }, { on := 0, ground := Ground.textOnly Departure.lateStores }, { on := 1, ground := Ground.textOnly Departure.lateStores }, { on := 2, ground := Ground.phase }], guard := none }) rfl (fun K hK => ?_) ?_
      · go_simp
        refine hK _ _ ?_
        clear hK K
        try simp only [Act.put, List.setIfInBounds_toArray, List.set_cons_zero, List.set_cons_succ]
        refine wpAny_ready (rs := [4]) (by kernel_rfl) (by simp) ?_
        refine AllReady.cons (o := { dst := none, op := Op.store 26 (Operand.tmp 2) (Operand.tmp 13), type := 0, pos := "delta.go:212", after := #[{ on := 1, ground := Ground.data }, { on := 3, ground := Ground.chain }, { on := 0, ground := Ground.phase }, { on := 1, ground := Ground.phase }, { on := 2, ground := Ground.phase }, { on := 3, ground := Ground.phase }], guard := none }) rfl (fun K hK => ?_) ?_
        · go_simp
          refine hK _ _ ?_
          clear hK K
          try simp only [Act.put, List.setIfInBounds_toArray, List.set_cons_zero, List.set_cons_succ]
          refine wpAny_done (by kernel_rfl) ?_ _
          go_wp2_with fail
          cases c₀
          simp_all [bodyPostS, results, Try.results76]
          exact caught_set HB.out B0.out B1.out B2.out
        exact AllReady.nil
      exact AllReady.nil
    refine AllReady.cons (o := { dst := none, op := Op.store 3 (Operand.tmp 1) (Operand.const (Value.int IntKind.i64 0)), type := 0, pos := "delta.go:212", after := #[{ on := 2, ground := Ground.chain }, { on := 0, ground := Ground.textOnly Departure.lateStores }, { on := 1, ground := Ground.textOnly Departure.lateStores }, { on := 2, ground := Ground.phase }], guard := none }) rfl (fun K hK => ?_) ?_
    · go_simp
      refine hK _ _ ?_
      clear hK K
      try simp only [Act.put, List.setIfInBounds_toArray, List.set_cons_zero, List.set_cons_succ]
      refine wpAny_ready (rs := [1]) (by kernel_rfl) (by simp) ?_
      refine AllReady.cons (o := { dst := some 13, op := Op.load 26 (Operand.tmp 12), type := 26, pos := "delta.go:212", after := #[{ on := 0, ground := Ground.data }, { on := 3, ground := Ground.gcOnly Departure.lateStores }], guard := none }) rfl (fun K hK => ?_) ?_
      · go_simp
        refine hK _ _ ?_
        clear hK K
        try simp only [Act.put, List.setIfInBounds_toArray, List.set_cons_zero, List.set_cons_succ]
        refine wpAny_ready (rs := [4]) (by kernel_rfl) (by simp) ?_
        refine AllReady.cons (o := { dst := none, op := Op.store 26 (Operand.tmp 2) (Operand.tmp 13), type := 0, pos := "delta.go:212", after := #[{ on := 1, ground := Ground.data }, { on := 3, ground := Ground.chain }, { on := 0, ground := Ground.phase }, { on := 1, ground := Ground.phase }, { on := 2, ground := Ground.phase }, { on := 3, ground := Ground.phase }], guard := none }) rfl (fun K hK => ?_) ?_
        · go_simp
          refine hK _ _ ?_
          clear hK K
          try simp only [Act.put, List.setIfInBounds_toArray, List.set_cons_zero, List.set_cons_succ]
          refine wpAny_done (by kernel_rfl) ?_ _
          go_wp2_with fail
          cases c₀
          simp_all [bodyPostS, results, Try.results76]
          exact caught_set HB.out B0.out B1.out B2.out
        exact AllReady.nil
      exact AllReady.nil
    exact AllReady.nil
  exact AllReady.nil
end Go.Proofs.Ytcdephhplmcmjaa.X
end

section
namespace Go.Proofs.Ytcdephhplmcmjaa.X
open Go.RowKit Go.Proofs.YtcdephhplmcmjaaW.PrintWords Go.Proofs.YtcdephhplmcmjaaW.PrintLast Go.Proofs.YtcdephhplmcmjaaW.PrintMore
end Go.Proofs.Ytcdephhplmcmjaa.X
end

section
namespace Go.Proofs.Ytcdephhplmcmjaa.X
open Go.RowKit
set_option linter.unusedVariables false
variable {P : Program}
theorem upon_in {o : Oper} {a : Act} {K : Act → World → Prop} {Q : Exit → Act → World → Prop} (l n : Nat) : ∀ {r : Result Next}, o.upon P a K Q r → o.uponIn (Fence.wide.inRound l) n P a K Q r := by
  intro r h
  cases r with
  | ok x w' =>
    cases x <;> first
      | exact h
      | exact ⟨fun e => (by cases e), CallsIn.inRound l (callsIn_wide.2 h)⟩
      | exact ⟨fun e => (by cases e), fun c cs _ => let ⟨v, w2, q, s⟩ := h c cs; ⟨v, w2, q, stepsIn_wide.2 s⟩⟩
      | exact h.elim
  | halt x w' => cases x <;> first | exact h | exact h.elim
def noDefer : Op → Bool
  | .defer _ => false
  | _ => true
theorem ops_in {ops : Array Oper} {Q : Exit → Act → World → Prop} (l n : Nat) (hq : ¬ LetsOut Q) (hp : ∀ (i : Nat) (o : Oper), ops[i]? = some o → noDefer o.op = true) :
    ∀ (L : List Nat) (a : Act) (w : World), wpOps P ops Q L a w → wpOpsIn (Fence.wide.inRound l) n P ops Q L a w
  | [], a, w, h => h
  | i :: L, a, w, h => by
    unfold wpOps at h
    unfold wpOpsIn
    cases ho : ops[i]? with
    | none => simp only [ho] at h ⊢; exact ops_in l n hq hp L a w h
    | some o =>
      have hpo := hp i o ho
      simp only [ho] at h ⊢
      by_cases hw : Region.wanted o (yielded ops a.tmps) = true
      · rw [if_pos hw] at h ⊢
        refine ⟨fun _ _ => trivial, ?_⟩
        rw [Oper.semAt_eq _ _ o (fun c hc => by rw [hc] at hpo; cases hpo)]
        refine upon_in l n ?_
        unfold Oper.wp at h
        have mono : ∀ {r : Result Next}, o.upon P a (wpOps P ops Q L) Q r → o.upon P a (wpOpsIn (Fence.wide.inRound l) n P ops Q L) Q r := by
          intro r h
          cases r with
          | ok x w' =>
            cases x <;> first
              | exact ops_in l n hq hp L _ _ h
              | exact Calls.mono h (fun e w2 he => by cases e <;> first | exact ops_in l n hq hp L _ _ he | exact he)
              | exact Rows.mono h (fun _ _ he => ops_in l n hq hp L _ _ he)
              | exact h
          | halt x w' => cases x <;> exact h
        exact mono (h.resolve_right fun x => hq x.2)
      · rw [if_neg hw] at h ⊢
        exact ⟨fun _ _ => trivial, ops_in l n hq hp L _ _ h⟩
theorem wpIn_region_round {ops : Array Oper} {Q : Exit → Act → World → Prop} {S : World → Prop} {id l n : Nat} {a : Act} {w : World} (hm : P.follows .mixedOrders = true) (hp : ops.toList.all (fun o => noDefer o.op) = true) (hq : ¬ LetsOut Q) (hS : S w.drew)
    (h : S w.drew → wpAnyH P .any ops Q S ops.size (Array.replicate ops.size false) a w.drew) : (Code.region id ops true).wpIn (Fence.wide.inRound l) n P Q a w := by
  refine wpIn_region_draw fun t => ?_
  simp only [Region.schedule, hm, Bool.true_or, if_true]
  refine ops_in l n hq (fun i o ho => ?_) _ _ _ (wpAny_sound ops.size t _ a _ (wpAny_of_held _ _ _ _ (h hS)))
  have : o ∈ ops.toList := Array.mem_toList_iff.2 (Array.mem_of_getElem? ho)
  exact List.all_eq_true.1 hp o this
end Go.Proofs.Ytcdephhplmcmjaa.X
end

section
namespace Go.Proofs.Ytcdephhplmcmjaa.X
open Go.RowKit Go.Proofs.YtcdephhplmcmjaaW.PrintWords
set_option linter.unusedVariables false
variable {P : Program}
theorem wpList_named2 {ops : Array Oper} {Q : Exit → Act → World → Prop} {l : List Oper} {a : Act} {w : World} (h : ∀ Q', Aside0 (∀ a w, Q .normal a w → Q' .normal a w) → wpList P ops Q' l a w) : wpList P ops Q l a w := h Q ⟨fun _ _ h => h⟩
end Go.Proofs.Ytcdephhplmcmjaa.X
end

section
namespace Go.Proofs.Ytcdephhplmcmjaa.X
open Go.RowKit Go.Proofs.YtcdephhplmcmjaaW.PrintWords Go.Proofs.YtcdephhplmcmjaaW.PrintLast Go.Proofs.YtcdephhplmcmjaaW.PrintMore
set_option linter.unusedVariables false
set_option linter.unusedSimpArgs false
theorem anyH_named {P : Program} {md : Region.Mode} {ops : Array Oper} {Q : Exit → Act → World → Prop} {S : World → Prop} {n : Nat} {listed : Array Bool} {a : Act} {w : World} (h : ∀ W, W = w → wpAnyH P md ops Q S n listed a W) : wpAnyH P md ops Q S n listed a w := h _ rfl
theorem bt_out {P : World → Prop} {w : World} (h : (∃ z, Ending.outgrown = .returned z) ∧ P w) : False := by obtain ⟨⟨_, h⟩, _⟩ := h; cases h
def BtI (B gd : Nat) (W : World) (ds : List Int) (W' : World) : Prop :=
  ∃ v, W'.heap[gd]? = some (.cells #[v] 44 (0, 0)) ∧ W'.ownsRow B 2 1 v ds.length (nums .i64 ds) ∧ Below B W W'
theorem bt_end {B gd : Nat} {W w2 : World} {v v2 : Value} {ds : List Int} (ho : w2.ownsRow B 2 1 v2 ds.length (nums .i64 ds)) (hb : Below B W w2) (hg : w2.heap[gd]? = some (.cells #[v] 44 (0, 0))) (hne : 2 ≠ 44) (hB : B ≤ gd) : BtI B gd W ds (w2.setCell ⟨gd, 0, none⟩ v2) :=
  ⟨v2, blk_set hg 0 _, own_setCell ho (own_ne ho hg hne) _, hb.setCell hB _⟩
set_option maxRecDepth 100000 in
set_option maxHeartbeats 4000000 in
theorem bt_take (B gd gb : Nat) (A : Option Addr) (c : Nat) (l : List Int) (ds : List Int) (i : Int) (W : World) (hI : BtI B gd W ds W) (hBg : B ≤ gd) (hgB : gb < B)
    (hgb : W.heap[gb]? = some (.cells #[.slice A l.length c] 44 (0, 0))) (hC : ∀ W', Below B W W' → Kd.C (Kd.int .i64) W' A l.length l) (hc : l.length ≤ c) (h1 : 1 ≤ i) (h2 : i < l.length) (hl : l.length ≤ 1000000) (hds : ds.length ≤ 1000000) :
    Calls Try.prog 61 #[.int .i64 i, .pointer (some ⟨gd, 0, none⟩), .pointer (some ⟨gb, 0, none⟩)] W fun e W' => (∃ z, e = .returned z) ∧ BtI B gd W (ds ++ [wrap64 (rd l i - rd l (i - 1))]) W' := by
  obtain ⟨v, hgd, ho, hBw⟩ := hI
  have hsz : B ≤ W.heap.size := by have := blk_lt hgd; omega
  obtain ⟨ad, rfl, e1⟩ := c_at (hC W (Below.refl _ _)) i (by omega) h2
  obtain ⟨ad', hae, e2⟩ := c_at (hC W (Below.refl _ _)) (i - 1) (by omega) (by omega)
  obtain rfl : ad = ad' := by simpa using hae
  have HS := Aside0.mk (show ∀ W', Below B W W' → W'.cell? ⟨gb, 0, none⟩ = some (.slice (some ad) l.length c) ∧ W'.cell? (ad.add i.toNat) = some (.int .i64 (rd l i)) ∧ W'.cell? (ad.add (i.toNat - 1)) = some (.int .i64 (rd l (i - 1))) from fun W' hb => by
    obtain ⟨a1, q1, z1⟩ := c_at (hC W' hb) i (by omega) h2
    obtain ⟨a2, q2, z2⟩ := c_at (hC W' hb) (i - 1) (by omega) (by omega)
    obtain rfl : ad = a1 := by simpa using q1
    obtain rfl : ad = a2 := by simpa using q2
    rw [show (i - 1).toNat = i.toNat - 1 by omega] at z2
    exact ⟨blk_cell ((hb.block gb hgB).trans hgb) 0, z1, z2⟩)
  obtain ⟨x1, hx1⟩ : ∃ x1, x1 = rd l i := ⟨_, rfl⟩
  obtain ⟨x2, hx2⟩ : ∃ x2, x2 = rd l (i - 1) := ⟨_, rfl⟩
  rw [← hx1, ← hx2] at HS ⊢
  have hw1 : IntKind.i64.wrap (i - 1) = i - 1 := IntWalk.i64_in _ (by omega)
  have p1 : (0 : Int) ≤ i := by omega
  have p2 : (0 : Int) ≤ i - 1 := by omega
  have p3 : i - 1 < (l.length : Int) := by omega
  have p4 : (1 : Int) ≤ i := h1
  have HBG := Aside0.mk hBg
  have HDS := Aside0.mk (show (ds.length + 1) * 8 ≤ 140737488355328 by omega)
  have q0 : W.cell? ⟨gd, 0, none⟩ = some v := blk_cell hgd 0
  have q0a : (W.alloc (.cells #[.int .i64 (wrap64 (x1 - x2))] 2)).cell? ⟨gd, 0, none⟩ = some v := blk_cell (blk_alloc hgd _) 0
  have HGD := Aside0.mk hgd
  have HO := Aside0.mk ho
  have HSZ := Aside0.mk hsz
  have hHeld : W.cell? ⟨gb, 0, none⟩ = some (.slice (some ad) l.length c) ∧ W.cell? (ad.add i.toNat) = some (.int .i64 x1) ∧ W.cell? (ad.add (i.toNat - 1)) = some (.int .i64 x2) := HS.out W (Below.refl _ _)
  clear hgd ho hBw hC hBg hds hx1 hx2 e1 e2 hgb hsz
  go_enter Try.func61, Try.ntmps61
  go_wp2_with fail
  refine wp_region_held_drew (S := fun w' => w'.cell? ⟨gb, 0, none⟩ = some (.slice (some ad) l.length c) ∧ w'.cell? (ad.add i.toNat) = some (.int .i64 x1) ∧ w'.cell? (ad.add (i.toNat - 1)) = some (.int .i64 x2)) (by kernel_rfl) hHeld (fun hHeld => ?_)
  refine anyH_named fun w3 hw3 => ?_
  have hHeld2 : w3.cell? ⟨gb, 0, none⟩ = some (.slice (some ad) l.length c) ∧ w3.cell? (ad.add i.toNat) = some (.int .i64 x1) ∧ w3.cell? (ad.add (i.toNat - 1)) = some (.int .i64 x2) := by rw [hw3]; exact hHeld
  clear hHeld
  have hHeld := hHeld2
  clear hHeld2
  have HB3 := Aside0.mk (show Below B W w3 from (by rw [hw3]; exact below_drew1 (Below.refl _ _)))
  have HG3 := Aside0.mk (show w3.heap[gd]? = some (.cells #[v] 44 (0, 0)) from (by rw [hw3]; exact HGD.out))
  have HO3 := Aside0.mk (show w3.ownsRow B 2 1 v ds.length (nums .i64 ds) from (by rw [hw3]; exact HO.out.drew))
  have HS3 := Aside0.mk (show B ≤ w3.heap.size from (by rw [hw3]; exact HSZ.out))
  have c3 : w3.cell? ⟨gd, 0, none⟩ = some v := blk_cell HG3.out 0
  have c3a : (w3.alloc (.cells #[.int .i64 (wrap64 (x1 - x2))] 2)).cell? ⟨gd, 0, none⟩ = some v := blk_cell (blk_alloc HG3.out _) 0
  clear hw3 q0 q0a
  refine wpAnyH_take (i := 1) (oi := { dst := some 5, op := Op.load 44 (Operand.tmp 2), type := 44, pos := "delta.go:66", after := #[], guard := none }) (v := .slice (some ad) l.length c) rfl (by kernel_rfl) (by kernel_rfl) (by kernel_rfl) (fun _ _ _ h => h) (Or.inl ⟨by rfl, ?_⟩) (by assumption) ?_
  · (intro w hSw; (try dsimp only at hSw); go_simp)
  try simp only [Act.put, List.setIfInBounds_toArray, List.set_cons_zero, List.set_cons_succ]
  refine wpAnyH_take (i := 2) (oi := { dst := some 6, op := Op.move (Operand.tmp 0), type := 3, pos := "delta.go:66", after := #[], guard := none }) (v := .int .i64 i) rfl (by kernel_rfl) (by kernel_rfl) (by kernel_rfl) (fun _ _ _ h => h) (Or.inl ⟨by rfl, ?_⟩) (by assumption) ?_
  · (intro w hSw; (try dsimp only at hSw); go_simp)
  try simp only [Act.put, List.setIfInBounds_toArray, List.set_cons_zero, List.set_cons_succ]
  refine wpAnyH_take (i := 3) (oi := { dst := some 7, op := Op.indexAddr 44 (Operand.tmp 5) (Operand.tmp 6), type := 0, pos := "delta.go:66", after := #[{ on := 1, ground := Ground.data }, { on := 2, ground := Ground.data }], guard := none }) (v := .pointer (some (ad.add i.toNat))) rfl (by kernel_rfl) (by kernel_rfl) (by kernel_rfl) (fun _ _ _ h => h) (Or.inl ⟨by rfl, ?_⟩) (by assumption) ?_
  · (intro w hSw; (try dsimp only at hSw); go_simp)
  try simp only [Act.put, List.setIfInBounds_toArray, List.set_cons_zero, List.set_cons_succ]
  refine wpAnyH_take (i := 4) (oi := { dst := some 8, op := Op.load 2 (Operand.tmp 7), type := 2, pos := "delta.go:66", after := #[{ on := 3, ground := Ground.data }], guard := none }) (v := .int .i64 x1) rfl (by kernel_rfl) (by kernel_rfl) (by kernel_rfl) (fun _ _ _ h => h) (Or.inl ⟨by rfl, ?_⟩) (by assumption) ?_
  · (intro w hSw; (try dsimp only at hSw); go_simp)
  try simp only [Act.put, List.setIfInBounds_toArray, List.set_cons_zero, List.set_cons_succ]
  refine wpAnyH_take (i := 5) (oi := { dst := some 9, op := Op.load 44 (Operand.tmp 2), type := 44, pos := "delta.go:66", after := #[], guard := none }) (v := .slice (some ad) l.length c) rfl (by kernel_rfl) (by kernel_rfl) (by kernel_rfl) (fun _ _ _ h => h) (Or.inl ⟨by rfl, ?_⟩) (by assumption) ?_
  · (intro w hSw; (try dsimp only at hSw); go_simp)
  try simp only [Act.put, List.setIfInBounds_toArray, List.set_cons_zero, List.set_cons_succ]
  refine wpAnyH_take (i := 6) (oi := { dst := some 10, op := Op.move (Operand.tmp 0), type := 3, pos := "delta.go:66", after := #[], guard := none }) (v := .int .i64 i) rfl (by kernel_rfl) (by kernel_rfl) (by kernel_rfl) (fun _ _ _ h => h) (Or.inl ⟨by rfl, ?_⟩) (by assumption) ?_
  · (intro w hSw; (try dsimp only at hSw); go_simp)
  try simp only [Act.put, List.setIfInBounds_toArray, List.set_cons_zero, List.set_cons_succ]
  refine wpAnyH_take (i := 7) (oi := { dst := some 11, op := Op.binOp BinOp.sub 3 (Operand.tmp 10) (Operand.const (Value.int IntKind.i64 1)) 3, type := 3, pos := "delta.go:66", after := #[{ on := 6, ground := Ground.data }], guard := none }) (v := .int .i64 (i - 1)) rfl (by kernel_rfl) (by kernel_rfl) (by kernel_rfl) (fun _ _ _ h => h) (Or.inl ⟨by rfl, ?_⟩) (by assumption) ?_
  · (intro w hSw; (try dsimp only at hSw); go_simp)
  try simp only [Act.put, List.setIfInBounds_toArray, List.set_cons_zero, List.set_cons_succ]
  refine wpAnyH_take (i := 8) (oi := { dst := some 12, op := Op.indexAddr 44 (Operand.tmp 9) (Operand.tmp 11), type := 0, pos := "delta.go:66", after := #[{ on := 5, ground := Ground.data }, { on := 7, ground := Ground.data }], guard := none }) (v := .pointer (some (ad.add (i.toNat - 1)))) rfl (by kernel_rfl) (by kernel_rfl) (by kernel_rfl) (fun _ _ _ h => h) (Or.inl ⟨by rfl, ?_⟩) (by assumption) ?_
  · (intro w hSw; (try dsimp only at hSw); go_simp)
  try simp only [Act.put, List.setIfInBounds_toArray, List.set_cons_zero, List.set_cons_succ]
  refine wpAnyH_take (i := 9) (oi := { dst := some 13, op := Op.load 2 (Operand.tmp 12), type := 2, pos := "delta.go:66", after := #[{ on := 8, ground := Ground.data }], guard := none }) (v := .int .i64 x2) rfl (by kernel_rfl) (by kernel_rfl) (by kernel_rfl) (fun _ _ _ h => h) (Or.inl ⟨by rfl, ?_⟩) (by assumption) ?_
  · (intro w hSw; (try dsimp only at hSw); go_simp)
  try simp only [Act.put, List.setIfInBounds_toArray, List.set_cons_zero, List.set_cons_succ]
  refine wpAnyH_ready (rs := [0, 10]) (by kernel_rfl) (by simp) ?_
  refine AllReadyH.cons (o := { dst := some 4, op := Op.load 44 (Operand.tmp 1), type := 44, pos := "delta.go:66", after := #[], guard := none }) rfl (fun K hK => ?_) ?_
  · go_simp
    refine hK.out _ _ (HS.out _ HB3.out) (fun hHeld2 => ?_)
    clear hK K hHeld
    have hHeld := hHeld2
    clear hHeld2
    try simp only [Act.put, List.setIfInBounds_toArray, List.set_cons_zero, List.set_cons_succ]
    refine wpAnyH_ready (rs := [10]) (by kernel_rfl) (by simp) ?_
    refine AllReadyH.cons (o := { dst := some 14, op := Op.call { callee := Callee.value (Operand.func 62), args := #[Operand.tmp 8, Operand.tmp 13], argTypes := #[2, 2] }, type := 2, pos := "delta.go:66", after := #[{ on := 4, ground := Ground.data }, { on := 9, ground := Ground.data }], guard := none }) rfl (fun K hK => ?_) ?_
    · go_simp
      go_at_call 62
      refine (delta_sub.stays _ _ _).mono ?_
      rintro e Wq ⟨rfl, hq⟩
      have hq := hq.symm
      subst hq
      refine hK.out _ _ (HS.out _ HB3.out) (fun hHeld2 => ?_)
      clear hK K hHeld
      have hHeld := hHeld2
      clear hHeld2
      try simp only [Act.put, List.setIfInBounds_toArray, List.set_cons_zero, List.set_cons_succ]
      refine wpAnyH_ready (rs := [11]) (by kernel_rfl) (by simp) ?_
      refine AllReadyH.cons (o := { dst := some 15, op := Op.buildSlice 44 1 #[(0, Operand.tmp 14)], type := 44, pos := "delta.go:66", after := #[{ on := 10, ground := Ground.data }], guard := none }) rfl (fun K hK => ?_) ?_
      · go_simp
        refine hK.out _ _ (HS.out _ (HB3.out.trans ((below_alloc (Below.refl w3.heap.size w3) _).mono HS3.out))) (fun hHeld2 => ?_)
        clear hK K hHeld
        have hHeld := hHeld2
        clear hHeld2
        try simp only [Act.put, List.setIfInBounds_toArray, List.set_cons_zero, List.set_cons_succ]
        refine wpAnyH_ready (rs := [12]) (by kernel_rfl) (by simp) ?_
        refine AllReadyH.cons (o := { dst := some 16, op := Op.call { callee := Callee.builtin Builtin.append, args := #[Operand.tmp 4, Operand.tmp 15], argTypes := #[44, 44] }, type := 44, pos := "delta.go:66", after := #[{ on := 0, ground := Ground.data }, { on := 11, ground := Ground.data }, { on := 10, ground := Ground.chain }], guard := none }) rfl (fun K hK => ?_) ?_
        · refine oper_of_list (by rintro ⟨_, _, h⟩; exact bt_out h) ?_
          refine print_append_num (w0 := W) B rfl (.tmp 4) (.tmp 15) 44 2 .i64 8 rfl Try.underlying44 dl_info (by decide) v ds (wrap64 (x1 - x2)) rfl rfl HO3.out HB3.out HS3.out HDS.out ?_
          intro v2 w2 ho2 hb2 hg2 hat2
          obtain ⟨A2, m2, c2, rfl⟩ : ∃ A2 m2 c2, v2 = .slice A2 m2 c2 := by obtain ⟨A, c, h⟩ := own_formD ho2; exact ⟨_, _, _, h⟩
          have hgd2 := blk_grown HG3.out hg2 (own_ne HO3.out HG3.out (by decide))
          have cgd2 := blk_cell hgd2 0
          have fgd2 := blk_frozen hgd2 0
          have HF := Aside0.mk (bt_end ho2 hb2 hgd2 (by decide) HBG.out)
          have HB2 := Aside0.mk hb2
          have HB6 := Aside0.mk (hb2.setCell (p := ⟨gd, 0, none⟩) HBG.out (.slice A2 m2 c2))
          clear ho2 hb2 hg2 hat2 hgd2
          show K _ _
          refine hK.out _ _ (HS.out _ HB2.out) (fun hHeld2 => ?_)
          clear hK K hHeld
          have hHeld := hHeld2
          clear hHeld2
          try simp only [Act.put, List.setIfInBounds_toArray, List.set_cons_zero, List.set_cons_succ]
          refine wpAnyH_ready (rs := [13]) (by kernel_rfl) (by simp) ?_
          refine AllReadyH.cons (o := { dst := none, op := Op.store 44 (Operand.tmp 1) (Operand.tmp 16), type := 0, pos := "delta.go:66", after := #[{ on := 12, ground := Ground.data }, { on := 12, ground := Ground.chain }, { on := 0, ground := Ground.phase }, { on := 1, ground := Ground.phase }, { on := 2, ground := Ground.phase }, { on := 3, ground := Ground.phase }, { on := 4, ground := Ground.phase }, { on := 5, ground := Ground.phase }, { on := 6, ground := Ground.phase }, { on := 7, ground := Ground.phase }, { on := 8, ground := Ground.phase }, { on := 9, ground := Ground.phase }, { on := 10, ground := Ground.phase }, { on := 11, ground := Ground.phase }, { on := 12, ground := Ground.phase }], guard := none }) rfl (fun K hK => ?_) ?_
          · go_simp
            refine hK.out _ _ (HS.out _ HB6.out) (fun hHeld2 => ?_)
            clear hK K hHeld
            have hHeld := hHeld2
            clear hHeld2
            try simp only [Act.put, List.setIfInBounds_toArray, List.set_cons_zero, List.set_cons_succ]
            refine wpAnyH_done (by kernel_rfl) ?_ _
            go_wp2
            go_end0
            exact ⟨⟨_, rfl⟩, HF.out⟩
          exact AllReadyH.nil
        exact AllReadyH.nil
      exact AllReadyH.nil
    exact AllReadyH.nil
  refine AllReadyH.cons (o := { dst := some 14, op := Op.call { callee := Callee.value (Operand.func 62), args := #[Operand.tmp 8, Operand.tmp 13], argTypes := #[2, 2] }, type := 2, pos := "delta.go:66", after := #[{ on := 4, ground := Ground.data }, { on := 9, ground := Ground.data }], guard := none }) rfl (fun K hK => ?_) ?_
  · go_simp
    go_at_call 62
    refine (delta_sub.stays _ _ _).mono ?_
    rintro e Wq ⟨rfl, hq⟩
    have hq := hq.symm
    subst hq
    refine hK.out _ _ (HS.out _ HB3.out) (fun hHeld2 => ?_)
    clear hK K hHeld
    have hHeld := hHeld2
    clear hHeld2
    try simp only [Act.put, List.setIfInBounds_toArray, List.set_cons_zero, List.set_cons_succ]
    refine wpAnyH_ready (rs := [0, 11]) (by kernel_rfl) (by simp) ?_
    refine AllReadyH.cons (o := { dst := some 4, op := Op.load 44 (Operand.tmp 1), type := 44, pos := "delta.go:66", after := #[], guard := none }) rfl (fun K hK => ?_) ?_
    · go_simp
      refine hK.out _ _ (HS.out _ HB3.out) (fun hHeld2 => ?_)
      clear hK K hHeld
      have hHeld := hHeld2
      clear hHeld2
      try simp only [Act.put, List.setIfInBounds_toArray, List.set_cons_zero, List.set_cons_succ]
      refine wpAnyH_ready (rs := [11]) (by kernel_rfl) (by simp) ?_
      refine AllReadyH.cons (o := { dst := some 15, op := Op.buildSlice 44 1 #[(0, Operand.tmp 14)], type := 44, pos := "delta.go:66", after := #[{ on := 10, ground := Ground.data }], guard := none }) rfl (fun K hK => ?_) ?_
      · go_simp
        refine hK.out _ _ (HS.out _ (HB3.out.trans ((below_alloc (Below.refl w3.heap.size w3) _).mono HS3.out))) (fun hHeld2 => ?_)
        clear hK K hHeld
        have hHeld := hHeld2
        clear hHeld2
        try simp only [Act.put, List.setIfInBounds_toArray, List.set_cons_zero, List.set_cons_succ]
        refine wpAnyH_ready (rs := [12]) (by kernel_rfl) (by simp) ?_
        refine AllReadyH.cons (o := { dst := some 16, op := Op.call { callee := Callee.builtin Builtin.append, args := #[Operand.tmp 4, Operand.tmp 15], argTypes := #[44, 44] }, type := 44, pos := "delta.go:66", after := #[{ on := 0, ground := Ground.data }, { on := 11, ground := Ground.data }, { on := 10, ground := Ground.chain }], guard := none }) rfl (fun K hK => ?_) ?_
        · refine oper_of_list (by rintro ⟨_, _, h⟩; exact bt_out h) ?_
          refine print_append_num (w0 := W) B rfl (.tmp 4) (.tmp 15) 44 2 .i64 8 rfl Try.underlying44 dl_info (by decide) v ds (wrap64 (x1 - x2)) rfl rfl HO3.out HB3.out HS3.out HDS.out ?_
          intro v2 w2 ho2 hb2 hg2 hat2
          obtain ⟨A2, m2, c2, rfl⟩ : ∃ A2 m2 c2, v2 = .slice A2 m2 c2 := by obtain ⟨A, c, h⟩ := own_formD ho2; exact ⟨_, _, _, h⟩
          have hgd2 := blk_grown HG3.out hg2 (own_ne HO3.out HG3.out (by decide))
          have cgd2 := blk_cell hgd2 0
          have fgd2 := blk_frozen hgd2 0
          have HF := Aside0.mk (bt_end ho2 hb2 hgd2 (by decide) HBG.out)
          have HB2 := Aside0.mk hb2
          have HB6 := Aside0.mk (hb2.setCell (p := ⟨gd, 0, none⟩) HBG.out (.slice A2 m2 c2))
          clear ho2 hb2 hg2 hat2 hgd2
          show K _ _
          refine hK.out _ _ (HS.out _ HB2.out) (fun hHeld2 => ?_)
          clear hK K hHeld
          have hHeld := hHeld2
          clear hHeld2
          try simp only [Act.put, List.setIfInBounds_toArray, List.set_cons_zero, List.set_cons_succ]
          refine wpAnyH_ready (rs := [13]) (by kernel_rfl) (by simp) ?_
          refine AllReadyH.cons (o := { dst := none, op := Op.store 44 (Operand.tmp 1) (Operand.tmp 16), type := 0, pos := "delta.go:66", after := #[{ on := 12, ground := Ground.data }, { on := 12, ground := Ground.chain }, { on := 0, ground := Ground.phase }, { on := 1, ground := Ground.phase }, { on := 2, ground := Ground.phase }, { on := 3, ground := Ground.phase }, { on := 4, ground := Ground.phase }, { on := 5, ground := Ground.phase }, { on := 6, ground := Ground.phase }, { on := 7, ground := Ground.phase }, { on := 8, ground := Ground.phase }, { on := 9, ground := Ground.phase }, { on := 10, ground := Ground.phase }, { on := 11, ground := Ground.phase }, { on := 12, ground := Ground.phase }], guard := none }) rfl (fun K hK => ?_) ?_
          · go_simp
            refine hK.out _ _ (HS.out _ HB6.out) (fun hHeld2 => ?_)
            clear hK K hHeld
            have hHeld := hHeld2
            clear hHeld2
            try simp only [Act.put, List.setIfInBounds_toArray, List.set_cons_zero, List.set_cons_succ]
            refine wpAnyH_done (by kernel_rfl) ?_ _
            go_wp2
            go_end0
            exact ⟨⟨_, rfl⟩, HF.out⟩
          exact AllReadyH.nil
        exact AllReadyH.nil
      exact AllReadyH.nil
    refine AllReadyH.cons (o := { dst := some 15, op := Op.buildSlice 44 1 #[(0, Operand.tmp 14)], type := 44, pos := "delta.go:66", after := #[{ on := 10, ground := Ground.data }], guard := none }) rfl (fun K hK => ?_) ?_
    · go_simp
      refine hK.out _ _ (HS.out _ (HB3.out.trans ((below_alloc (Below.refl w3.heap.size w3) _).mono HS3.out))) (fun hHeld2 => ?_)
      clear hK K hHeld
      have hHeld := hHeld2
      clear hHeld2
      try simp only [Act.put, List.setIfInBounds_toArray, List.set_cons_zero, List.set_cons_succ]
      refine wpAnyH_ready (rs := [0]) (by kernel_rfl) (by simp) ?_
      refine AllReadyH.cons (o := { dst := some 4, op := Op.load 44 (Operand.tmp 1), type := 44, pos := "delta.go:66", after := #[], guard := none }) rfl (fun K hK => ?_) ?_
      · go_simp
        refine hK.out _ _ (HS.out _ (HB3.out.trans ((below_alloc (Below.refl w3.heap.size w3) _).mono HS3.out))) (fun hHeld2 => ?_)
        clear hK K hHeld
        have hHeld := hHeld2
        clear hHeld2
        try simp only [Act.put, List.setIfInBounds_toArray, List.set_cons_zero, List.set_cons_succ]
        refine wpAnyH_ready (rs := [12]) (by kernel_rfl) (by simp) ?_
        refine AllReadyH.cons (o := { dst := some 16, op := Op.call { callee := Callee.builtin Builtin.append, args := #[Operand.tmp 4, Operand.tmp 15], argTypes := #[44, 44] }, type := 44, pos := "delta.go:66", after := #[{ on := 0, ground := Ground.data }, { on := 11, ground := Ground.data }, { on := 10, ground := Ground.chain }], guard := none }) rfl (fun K hK => ?_) ?_
        · refine oper_of_list (by rintro ⟨_, _, h⟩; exact bt_out h) ?_
          refine print_append_num (w0 := W) B rfl (.tmp 4) (.tmp 15) 44 2 .i64 8 rfl Try.underlying44 dl_info (by decide) v ds (wrap64 (x1 - x2)) rfl rfl HO3.out HB3.out HS3.out HDS.out ?_
          intro v2 w2 ho2 hb2 hg2 hat2
          obtain ⟨A2, m2, c2, rfl⟩ : ∃ A2 m2 c2, v2 = .slice A2 m2 c2 := by obtain ⟨A, c, h⟩ := own_formD ho2; exact ⟨_, _, _, h⟩
          have hgd2 := blk_grown HG3.out hg2 (own_ne HO3.out HG3.out (by decide))
          have cgd2 := blk_cell hgd2 0
          have fgd2 := blk_frozen hgd2 0
          have HF := Aside0.mk (bt_end ho2 hb2 hgd2 (by decide) HBG.out)
          have HB2 := Aside0.mk hb2
          have HB6 := Aside0.mk (hb2.setCell (p := ⟨gd, 0, none⟩) HBG.out (.slice A2 m2 c2))
          clear ho2 hb2 hg2 hat2 hgd2
          show K _ _
          refine hK.out _ _ (HS.out _ HB2.out) (fun hHeld2 => ?_)
          clear hK K hHeld
          have hHeld := hHeld2
          clear hHeld2
          try simp only [Act.put, List.setIfInBounds_toArray, List.set_cons_zero, List.set_cons_succ]
          refine wpAnyH_ready (rs := [13]) (by kernel_rfl) (by simp) ?_
          refine AllReadyH.cons (o := { dst := none, op := Op.store 44 (Operand.tmp 1) (Operand.tmp 16), type := 0, pos := "delta.go:66", after := #[{ on := 12, ground := Ground.data }, { on := 12, ground := Ground.chain }, { on := 0, ground := Ground.phase }, { on := 1, ground := Ground.phase }, { on := 2, ground := Ground.phase }, { on := 3, ground := Ground.phase }, { on := 4, ground := Ground.phase }, { on := 5, ground := Ground.phase }, { on := 6, ground := Ground.phase }, { on := 7, ground := Ground.phase }, { on := 8, ground := Ground.phase }, { on := 9, ground := Ground.phase }, { on := 10, ground := Ground.phase }, { on := 11, ground := Ground.phase }, { on := 12, ground := Ground.phase }], guard := none }) rfl (fun K hK => ?_) ?_
          · go_simp
            refine hK.out _ _ (HS.out _ HB6.out) (fun hHeld2 => ?_)
            clear hK K hHeld
            have hHeld := hHeld2
            clear hHeld2
            try simp only [Act.put, List.setIfInBounds_toArray, List.set_cons_zero, List.set_cons_succ]
            refine wpAnyH_done (by kernel_rfl) ?_ _
            go_wp2
            go_end0
            exact ⟨⟨_, rfl⟩, HF.out⟩
          exact AllReadyH.nil
        exact AllReadyH.nil
      exact AllReadyH.nil
    exact AllReadyH.nil
  exact AllReadyH.nil
end Go.Proofs.Ytcdephhplmcmjaa.X
end

section
namespace Go.Proofs.Ytcdephhplmcmjaa.X
open Go.RowKit
set_option linter.unusedVariables false
variable {F : Fence} {n : Nat} {P : Program}
def SeqLays {α : Type} (F : Fence) (n : Nat) (P : Program) (g : Nat) (lb : Array Value) (encs : α → Array Value) (Ab Kp : World → World → Prop) (G : List α → α → World → Prop) (S Sp : List α → Prop) (N : Nat) (W : World) : Prop :=
  ∀ (l : Nat) (J Jx : List α → World → Prop), (∀ s A B, J s A → Ab A B → J s B) → (∀ s A B, Jx s A → Ab A B → Jx s B) →
    (∀ pre x W1, J pre W1 → G pre x W1 → pre.length < N → YieldAt F (n - 1) P l (encs x) W1 fun e W' =>
      (e = .returned (.bool true) ∧ J (pre ++ [x]) W' ∧ Kp W1 W') ∨ (e = .returned (.bool false) ∧ Jx (pre ++ [x]) W' ∧ Kp W1 W')) →
    J [] W →
    CallsIn F n P g (#[.func (.yield l) #[] #[]] ++ lb) W fun e W' => (∃ v, e = .returned v) ∧ ((∃ xs, S xs ∧ J xs W') ∨ (∃ pre, Sp pre ∧ Jx pre W'))
def KeepsTwo (B : Nat) (W W' : World) : Prop := ∀ (k : Nat) (o : Obj), B ≤ k → k < B + 2 → W.heap[k]? = some o → o.isCells = false → W'.heap[k]? = some o
theorem KeepsTwo.trans {B : Nat} {X Y Z : World} (h : KeepsTwo B X Y) (k : KeepsTwo B Y Z) : KeepsTwo B X Z := fun i o h1 h2 hi ho => k i o h1 h2 (h i o h1 h2 hi ho) ho
def postLays {α : Type} (B : Nat) (Kp : World → World → Prop) (I : List α → World → Prop) (Ix : Code → List α → World → Prop) (xs : List α) (W : World) : Exit → Act → World → Prop
  | .normal, _, W' => KeepsTwo B W W' ∧ Kp W W' ∧ I xs W'
  | .ret, _, W' => KeepsTwo B W W' ∧ Kp W W' ∧ Ix .ret xs W'
  | .exit id, _, W' => KeepsTwo B W W' ∧ Kp W W' ∧ Ix (.exit id) xs W'
  | .goto t, _, W' => KeepsTwo B W W' ∧ Kp W W' ∧ Ix (.goto t) xs W'
  | .panic _, _, _ => False
  | .outgrown, _, _ => False
def Turns (B : Nat) (W W' : World) : Prop := ∃ (k : Nat) (o o' : Obj), B ≤ k ∧ k < B + 2 ∧ W.heap[k]? = some o ∧ o.isCells = false ∧ o.isWalk = false ∧ W' = W.putObj k o'
theorem wpIn_rangeFunc_lays {α : Type} {g : Operand} {ps : Array Tmp} {assign body : Code} {Q : Exit → Act → World → Prop} {a : Act} {w : World}
    (hro : F.round = none) (h1 : 1 ≤ n) {gf : Nat} {lb : Array Value} (hg : a.eval g = .func (.func gf) #[] lb) (hFg : F.fn gf) (eg : ∀ args w, (callFunc gf args).run P w = .ok (.enter gf args) w)
    {encs : α → Array Value} {Ab Kp : World → World → Prop} {G : List α → α → World → Prop} {S Sp : List α → Prop} {N : Nat} (hseq : ∀ o1 o2, SeqLays F (n - 1) P gf lb encs Ab Kp G S Sp N ((w.alloc o1).alloc o2))
    (hAb : ∀ A B : World, Ab A B → KeepsTwo w.heap.size A B)
    (hKt : ∀ {A B C : World}, Kp A B → Kp B C → Kp A C) (hKb : ∀ A B : World, Turns w.heap.size A B → Kp A B) (hps : ∀ x, (encs x).size = ps.size)
    (I : List α → World → Prop) (Ix : Code → List α → World → Prop) (hI : ∀ s A B, I s A → Ab A B → I s B) (hIx : ∀ c s A B, Ix c s A → Ab A B → Ix c s B) (hIt : ∀ s A B, I s A → Turns w.heap.size A B → I s B) (hIxt : ∀ c s A B, Ix c s A → Turns w.heap.size A B → Ix c s B)
    (h0 : ∀ o1 o2, I [] ((w.alloc o1).alloc o2)) (Ax : List α → α → Act → World → Prop) (hAx : ∀ pre x a' A B, Ax pre x a' A → Turns w.heap.size A B → Ax pre x a' B)
    (hassign : ∀ (l : Nat) (pre : List α) (x : α) (W : World) (K : Act → World → Prop), I pre W → G pre x W → pre.length < N → (∀ a' W', KeepsTwo w.heap.size W W' → Kp W W' → Ax pre x a' W' → K a' W') →
      assign.wpIn (F.inRound l) (n - 1 - 1) P (Exit.then K (fun _ _ _ => False)) { tmps := (ps.zip (encs x)).foldl (fun t (p, v) => t.setIfInBounds p v) a.tmps, defers := [] } W)
    (hbody : ∀ (l : Nat) (pre : List α) (x : α) (a' : Act) (W : World), Ax pre x a' W → pre.length < N → body.wpIn (F.inRound l) (n - 1 - 1) P (postLays w.heap.size Kp I Ix (pre ++ [x]) W) a' W)
    (hdone : ∀ (D : Nat) (xs : List α) (W : World), w.heap.size ≤ D → D < w.heap.size + 2 → S xs → I xs W → W.heap[D]? = some (.deferred (some [])) → Q .normal { a with defers := { target := .collected D, args := #[] } :: a.defers } W)
    (hstop : ∀ (D : Nat) (c : Code) (pre : List α) (W : World), w.heap.size ≤ D → D < w.heap.size + 2 → Sp pre → Ix c pre W → W.heap[D]? = some (.deferred (some [])) → c.wpIn F n P Q { a with defers := { target := .collected D, args := #[] } :: a.defers } W) :
    (Code.rangeFunc g ps assign body).wpIn F n P Q a w := by
  refine wpIn_rangeFunc fun fn hfn => ?_
  rw [hro]
  obtain ⟨rec, hrec⟩ : ∃ rec : LoopState → Option Code → Loop, rec = fun st pe => { state := st, pending := pe, fn, tmps := a.tmps, params := ps, assign, body, defers := w.heap.size } := ⟨_, rfl⟩
  have hL1 : ((w.alloc (.deferred (some []))).alloc (.loop (rec .ready none))).heap[w.heap.size + 1]? = some (.loop (rec .ready none)) := by
    have := World.alloc_heap_new (w.alloc (.deferred (some []))) (.loop (rec .ready none)); rwa [World.size_alloc] at this
  have hK1 : ((w.alloc (.deferred (some []))).alloc (.loop (rec .ready none))).heap[w.heap.size]? = some (.deferred (some [])) :=
    (Below.heap_alloc _ _ _ (by simp)).trans (World.alloc_heap_new w _)
  refine ⟨w.heap.size + 1, [{ target := .collected w.heap.size, args := #[] }], (w.alloc (.deferred (some []))).alloc (.loop (rec .ready none)), { target := .fn (.func gf) lb, args := #[.func (.yield (w.heap.size + 1)) #[] #[]] }, (w.alloc (.deferred (some []))).alloc (.loop (rec .ready none)), gf,
    #[.func (.yield (w.heap.size + 1)) #[] #[]] ++ lb, (w.alloc (.deferred (some []))).alloc (.loop (rec .ready none)), ?_, ?_, ?_, ?_, fun _ => h1, ?_⟩
  · rw [hrec]; exact run_enterLoop_outer _ _ _ _ _
  · simp only [resolve, hg]
    simp [go_sem]
  · intro f' hf'; simp [Target.leads] at hf'; subst hf'; exact hFg
  · simp [invoke, go_sem, eg]
  have turn : ∀ (W : World) (r : Loop) (o' : Obj), W.heap[w.heap.size + 1]? = some (.loop r) → Turns w.heap.size W (W.putObj (w.heap.size + 1) o') := fun W r o' h => ⟨_, _, o', by omega, by omega, h, rfl, rfl, rfl⟩
  refine (hseq _ _ (w.heap.size + 1)
    (fun pre W => I pre W ∧ W.heap[w.heap.size + 1]? = some (.loop (rec .ready none)) ∧ W.heap[w.heap.size]? = some (.deferred (some [])))
    (fun pre W => ∃ c, Ix c pre W ∧ W.heap[w.heap.size + 1]? = some (.loop (rec .done (some c))) ∧ W.heap[w.heap.size]? = some (.deferred (some [])))
    (fun s A B hs hab => ⟨hI s A B hs.1 hab, hAb A B hab _ _ (by omega) (by omega) hs.2.1 rfl, hAb A B hab _ _ (by omega) (by omega) hs.2.2 rfl⟩)
    (fun s A B hs hab => by
      obtain ⟨c, hc, hl, hk⟩ := hs
      exact ⟨c, hIx c s A B hc hab, hAb A B hab _ _ (by omega) (by omega) hl rfl, hAb A B hab _ _ (by omega) (by omega) hk rfl⟩)
    ?_ ⟨h0 _ _, hL1, hK1⟩).mono ?_
  · rintro pre x W ⟨hi, hl, hk⟩ hG hlen
    have hy := run_yield (P := P) (args := encs x) hl (by rw [hrec]; exact hps x)
    rw [hrec] at hy
    refine ⟨fn, _, assign, body, hy, roundIn_of_wpIn hfn (hassign _ pre x W _ hi hG hlen ?_)⟩
    clear hy
    intro a' Wa hka hpa hax
    have hla := hka _ _ (by omega) (by omega) hl rfl
    have hda := hka _ _ (by omega) (by omega) hk rfl
    refine ⟨_, run_beginRound hla (by rw [hrec]), ?_⟩
    have hlt : w.heap.size + 1 < Wa.heap.size := (Array.getElem?_eq_some_iff.1 hla).1
    have hl2 : (Wa.putObj (w.heap.size + 1) (.loop { rec .ready none with state := .busy })).heap[w.heap.size + 1]? = some (.loop { rec .ready none with state := .busy }) := World.putObj_heap_same hlt
    have hd2 : (Wa.putObj (w.heap.size + 1) (.loop { rec .ready none with state := .busy })).heap[w.heap.size]? = some (.deferred (some [])) := (World.putObj_heap_other (by omega)).trans hda
    have ht2 := turn Wa _ (.loop { rec .ready none with state := .busy }) hla
    refine wpIn_mono (hbody _ pre x a' _ (hAx pre x a' _ _ hax ht2) hlen) ?_
    have fin : ∀ (jump : Option Code) (W3 : World), KeepsTwo w.heap.size (Wa.putObj (w.heap.size + 1) (.loop { rec .ready none with state := .busy })) W3 →
        (Instr.endRound (w.heap.size + 1) jump).run P W3 = .ok (.bool jump.isNone) (W3.putObj (w.heap.size + 1) (.loop (rec (if jump.isNone then .ready else .done) jump))) ∧
        Turns w.heap.size W3 (W3.putObj (w.heap.size + 1) (.loop (rec (if jump.isNone then .ready else .done) jump))) ∧
        (W3.putObj (w.heap.size + 1) (.loop (rec (if jump.isNone then .ready else .done) jump))).heap[w.heap.size + 1]? = some (.loop (rec (if jump.isNone then .ready else .done) jump)) ∧
        (W3.putObj (w.heap.size + 1) (.loop (rec (if jump.isNone then .ready else .done) jump))).heap[w.heap.size]? = some (.deferred (some [])) := fun jump W3 hk3 => by
      have hl3 := hk3 _ _ (by omega) (by omega) hl2 rfl
      have hd3 := hk3 _ _ (by omega) (by omega) hd2 rfl
      have := run_endRound (P := P) jump hl3
      rw [hrec] at this ⊢
      exact ⟨this, turn W3 _ _ hl3, World.putObj_heap_same (Array.getElem?_eq_some_iff.1 hl3).1, (World.putObj_heap_other (by omega)).trans hd3⟩
    rintro e a3 W3 hp
    cases e with
    | normal =>
      obtain ⟨hk3, hkp3, hi3⟩ := hp
      obtain ⟨hr, ht3, hl4, hd4⟩ := fin none W3 hk3
      exact ⟨_, _, hr, .inl ⟨rfl, ⟨hIt _ _ _ hi3 ht3, hl4, hd4⟩, hKt hpa (hKt (hKt (hKb _ _ ht2) hkp3) (hKb _ _ ht3))⟩⟩
    | ret =>
      obtain ⟨hk3, hkp3, hi3⟩ := hp
      obtain ⟨hr, ht3, hl4, hd4⟩ := fin (some .ret) W3 hk3
      exact ⟨_, _, hr, .inr ⟨rfl, ⟨.ret, hIxt _ _ _ _ hi3 ht3, hl4, hd4⟩, hKt hpa (hKt (hKt (hKb _ _ ht2) hkp3) (hKb _ _ ht3))⟩⟩
    | exit id =>
      obtain ⟨hk3, hkp3, hi3⟩ := hp
      obtain ⟨hr, ht3, hl4, hd4⟩ := fin (some (.exit id)) W3 hk3
      exact ⟨_, _, hr, .inr ⟨rfl, ⟨.exit id, hIxt _ _ _ _ hi3 ht3, hl4, hd4⟩, hKt hpa (hKt (hKt (hKb _ _ ht2) hkp3) (hKb _ _ ht3))⟩⟩
    | goto t =>
      obtain ⟨hk3, hkp3, hi3⟩ := hp
      obtain ⟨hr, ht3, hl4, hd4⟩ := fin (some (.goto t)) W3 hk3
      exact ⟨_, _, hr, .inr ⟨rfl, ⟨.goto t, hIxt _ _ _ _ hi3 ht3, hl4, hd4⟩, hKt hpa (hKt (hKt (hKb _ _ ht2) hkp3) (hKb _ _ ht3))⟩⟩
    | panic ch => exact hp.elim
    | outgrown => exact hp.elim
  · rintro e W2 ⟨⟨v, rfl⟩, (⟨xs, hS, hi, hl, hk⟩ | ⟨pre, hSp, c, hi, hl, hk⟩)⟩
    · have hend := run_endLoop (P := P) hl (by rw [hrec]; simp)
      rw [hrec] at hend
      exact ⟨none, _, hend, hdone _ xs _ (Nat.le_refl _) (by omega) hS (hIt _ _ _ hi (turn W2 _ _ hl)) ((World.putObj_heap_other (by omega)).trans hk)⟩
    · have hend := run_endLoop (P := P) hl (by rw [hrec]; simp)
      rw [hrec] at hend
      exact ⟨some c, _, hend, hstop _ c pre _ (Nat.le_refl _) (by omega) hSp (hIxt _ _ _ _ hi (turn W2 _ _ hl)) ((World.putObj_heap_other (by omega)).trans hk)⟩
theorem KeepsTwo.refl (B : Nat) (W : World) : KeepsTwo B W W := fun _ _ _ _ h _ => h
theorem lays_named {F : Fence} {n : Nat} {P : Program} {Q : Exit → Act → World → Prop} {a : Act} {w : World} {c : Code} (h : ∀ W, W = w → c.wpIn F n P Q a W) : c.wpIn F n P Q a w := h _ rfl
structure KeepsBut (X : Nat → Prop) (A B : World) : Prop where
  os : B.os = A.os
  tape : B.tape = A.tape
  output : B.output = A.output
  size : A.heap.size ≤ B.heap.size
  block : ∀ k, k < A.heap.size → ¬ X k → B.heap[k]? = A.heap[k]?
theorem KeepsBut.refl (X : Nat → Prop) (A : World) : KeepsBut X A A := ⟨rfl, rfl, rfl, Nat.le_refl _, fun _ _ _ => rfl⟩
theorem KeepsBut.trans {X : Nat → Prop} {A B C : World} (h : KeepsBut X A B) (k : KeepsBut X B C) : KeepsBut X A C :=
  ⟨k.os.trans h.os, k.tape.trans h.tape, k.output.trans h.output, Nat.le_trans h.size k.size, fun i hi hx => (k.block i (Nat.lt_of_lt_of_le hi h.size) hx).trans (h.block i hi hx)⟩
theorem KeepsBut.of_grown {X : Nat → Prop} {A B : World} {row : Option Nat} (h : A.grownBy B row) (hr : ∀ r, row = some r → X r) : KeepsBut X A B :=
  ⟨h.os, h.tape, h.output, h.size, fun k hk hx => h.block k hk fun e => hx (hr k e.symm)⟩
theorem KeepsBut.of_below {X : Nat → Prop} {A B : World} (h : Below A.heap.size A B) : KeepsBut X A B := ⟨h.os, h.tape, h.output, h.size, fun k hk _ => h.block k hk⟩
theorem KeepsBut.setCell {X : Nat → Prop} (A : World) {g : Nat} (o : Nat) (v : Value) (hg : X g) : KeepsBut X A (A.setCell ⟨g, o, none⟩ v) :=
  ⟨rfl, rfl, rfl, by show A.heap.size ≤ (A.heap.modify _ _).size; rw [Array.size_modify]; exact Nat.le_refl _, fun k hk hx => Below.heap_setCell A ⟨g, o, none⟩ v k (fun e => hx (e ▸ hg))⟩
theorem KeepsBut.of_turns {X : Nat → Prop} {B : Nat} {A C : World} (h : Turns B A C) (hX : ∀ k, B ≤ k → k < B + 2 → X k) : KeepsBut X A C := by
  obtain ⟨k, o, o', h1, h2, hk, _, _, rfl⟩ := h
  exact .of_grown (grownBy_putObj' A k o') (fun r e => by cases e; exact hX k h1 h2)
theorem KeepsBut.below {X : Nat → Prop} {A C : World} {n₀ : Nat} (h : KeepsBut X A C) (hn : n₀ ≤ A.heap.size) (hX : ∀ k, X k → n₀ ≤ k) : Below n₀ A C :=
  ⟨h.os, h.tape, h.output, h.size, fun k hk => h.block k (by omega) (fun hx => by have := hX k hx; omega)⟩
theorem KeepsBut.at {X : Nat → Prop} {A C : World} (h : KeepsBut X A C) {k : Nat} {o : Obj} (hk : A.heap[k]? = some o) (hx : ¬ X k) : C.heap[k]? = some o := (h.block k (Array.getElem?_eq_some_iff.1 hk).1 hx).trans hk
theorem KeepsTwo.of_below {B n : Nat} {A C : World} (h : Below n A C) (hn : B + 2 ≤ n) : KeepsTwo B A C := fun k o h1 h2 hk _ => (h.block k (by omega)).trans hk
theorem Turns.below {B n : Nat} {A C : World} (h : Turns B A C) (hn : n ≤ B) (hs : n ≤ A.heap.size) : Below n A C := by
  obtain ⟨k, o, o', h1, h2, hk, _, _, rfl⟩ := h
  exact (Below.refl n A).grown (grownBy_putObj' A k o') hs (fun r e => by cases e; omega)
theorem Turns.at {B : Nat} {A C : World} (h : Turns B A C) {k : Nat} {o : Obj} (hk : A.heap[k]? = some o) (hx : k < B ∨ B + 2 ≤ k) : C.heap[k]? = some o := by
  obtain ⟨j, o1, o2, h1, h2, hj, _, _, rfl⟩ := h
  exact (World.putObj_heap_other (by omega)).trans hk
end Go.Proofs.Ytcdephhplmcmjaa.X
end

section
namespace Go.Proofs.Ytcdephhplmcmjaa.X
open Go.RowKit Go.Proofs.YtcdephhplmcmjaaW.PrintWords Go.Proofs.YtcdephhplmcmjaaW.PrintLast Go.Proofs.YtcdephhplmcmjaaW.PrintMore
set_option linter.unusedVariables false
set_option linter.unusedSimpArgs false
theorem BtI.trans {B gd : Nat} {A W W' : World} {ds es : List Int} (h : BtI B gd A ds W) (k : BtI B gd W es W') : BtI B gd A es W' := by
  obtain ⟨_, _, _, hb⟩ := h
  obtain ⟨v, h1, h2, h3⟩ := k
  exact ⟨v, h1, h2, hb.trans h3⟩
theorem BtI.here {B gd : Nat} {A W : World} {ds : List Int} (h : BtI B gd A ds W) : BtI B gd W ds W := by
  obtain ⟨v, h1, h2, _⟩ := h
  exact ⟨v, h1, h2, Below.refl _ _⟩
def difD (l : List Int) (at_ : Int) (m : Nat) : List Int := (List.range m).map fun (j : Nat) => wrap64 (rd l (at_ + j) - rd l (at_ + j - 1))
theorem difD_succ (l : List Int) (at_ : Int) (m : Nat) : difD l at_ (m + 1) = difD l at_ m ++ [wrap64 (rd l (at_ + m) - rd l (at_ + m - 1))] := by simp [difD, List.range_succ]
theorem difD_length (l : List Int) (at_ : Int) (m : Nat) : (difD l at_ m).length = m := by simp [difD]
def blksD (l : List Int) : Nat → Int → List (List Int)
  | 0, _ => []
  | d + 1, at_ => if at_ < (l.length : Int) then difD l at_ (min (l.length : Int) (at_ + 128) - at_).toNat :: blksD l d (at_ + 128) else []
def allD (l : List Int) : List (List Int) := blksD l 600 1
structure BlkH (w0 W : World) (A : Option Addr) (c : Nat) (l : List Int) (gb : Nat) (X : Nat → Prop) : Prop where
  hC : Kd.C (Kd.int .i64) w0 A l.length l
  hc : l.length ≤ c
  hl : l.length ≤ 65536
  hb : Below w0.heap.size w0 W
  hgb : W.heap[gb]? = some (.cells #[.slice A l.length c] 44 (0, 0))
  hXn : ∀ k, X k → w0.heap.size ≤ k
  hXb : ¬ X gb
theorem BlkH.step {w0 W W' : World} {A : Option Addr} {c : Nat} {l : List Int} {gb : Nat} {X : Nat → Prop} (h : BlkH w0 W A c l gb X) (hb : Below W.heap.size W W') : BlkH w0 W' A c l gb X :=
  ⟨h.hC, h.hc, h.hl, h.hb.trans (hb.mono h.hb.size), blk_below h.hgb hb, h.hXn, h.hXb⟩
theorem BlkH.but {w0 W W' : World} {A : Option Addr} {c : Nat} {l : List Int} {gb : Nat} {X : Nat → Prop} (h : BlkH w0 W A c l gb X) (hb : KeepsBut X W W') : BlkH w0 W' A c l gb X :=
  ⟨h.hC, h.hc, h.hl, h.hb.trans (hb.below h.hb.size h.hXn), hb.at h.hgb h.hXb, h.hXn, h.hXb⟩
def blkG (w0 : World) (l : List Int) (pre : List (Value × List Int)) (x : Value × List Int) (W : World) : Prop :=
  (∃ s, w0.heap.size ≤ s ∧ W.ownsRow s 2 1 x.1 x.2.length (nums .i64 x.2)) ∧ ∃ r, pre.map Prod.snd ++ x.2 :: r = allD l
def BlkLays (n : Nat) (w0 W : World) (A : Option Addr) (c : Nat) (l : List Int) (gb : Nat) (X : Nat → Prop) : Prop :=
  SeqLays Fence.wide n Try.prog 60 #[.pointer (some ⟨gb, 0, none⟩)] (fun x : Value × List Int => #[x.1]) (fun P Q => Below P.heap.size P Q) (KeepsBut X) (blkG w0 l) (fun xs => xs.map Prod.snd = allD l) (fun _ => True) (allD l).length W
attribute [local go_sem] Oper.semAt_some
set_option maxRecDepth 100000 in
set_option maxHeartbeats 4000000 in
theorem blk1_lays (n : Nat) (hn : 1 ≤ n) {w0 W : World} {A : Option Addr} {c : Nat} {l : List Int} {gb : Nat} {X : Nat → Prop} (h : BlkH w0 W A c l gb X) : BlkLays n w0 W A c l gb X := by
  intro yl J Jx hJ hJx hY h0
  have HJ := Aside0.mk (show ∀ pre P Q, J pre P → Below P.heap.size P Q → J pre Q from hJ)
  have HY := Aside0.mk hY
  have H0 := Aside0.mk h0
  have HH := Aside0.mk h
  have hlen := h.hl
  have hcc := h.hc
  clear hJ hJx hY h0 h
  refine callsIn_of_wp Try.func60 rfl trivial ?_ rfl
  simp only [Try.ntmps60, List.size_toArray, List.length_cons, List.length_nil, Nat.reduceAdd, Nat.reduceSub, Array.replicate_succ, Array.replicate_zero, List.push_toArray, List.append_toArray, List.nil_append, List.cons_append]
  gi_wp2
  gi_loopw [3] (fun v3 wr => ∃ (at_ d : Nat) (pre : List (Value × List Int)), v3 = .int .i64 at_ ∧ 1 ≤ at_ ∧ at_ ≤ 65664 ∧ Aside0 (l.length < at_ + 128 * d) ∧ Aside0 (pre.map Prod.snd ++ blksD l d at_ = allD l) ∧ Aside0 (J pre wr) ∧ Aside0 (BlkH w0 wr A c l gb X)) (fun v3 _ => 70000 - (intOf v3).toNat)
  case atStart => exact ⟨1, 600, [], rfl, by omega, by omega, ⟨by omega⟩, ⟨rfl⟩, H0, HH⟩
  case round =>
    clear H0 HH
    obtain ⟨at_, d, pre, rfl, ha1, ha2, HD, HP, HJp, HH⟩ := hrel
    have qb : wr.cell? ⟨gb, 0, none⟩ = some (.slice A l.length c) := blk_cell HH.out.hgb 0
    have hwr : IntKind.i64.wrap ((at_ : Int) + 128) = (at_ : Int) + 128 := IntWalk.i64_in _ (by omega)
    by_cases ci : at_ < l.length
    · have q1 : decide ((at_ : Int) < (l.length : Int)) = true := decide_eq_true (by omega)
      have q2 : decide (at_ < l.length) = true := decide_eq_true ci
      obtain ⟨e, he⟩ : ∃ e : Nat, min (l.length : Int) ((at_ : Int) + 128) = (e : Int) := ⟨(min (l.length : Int) ((at_ : Int) + 128)).toNat, by omega⟩
      have HE := Aside0.mk (show e ≤ l.length ∧ e ≤ at_ + 128 ∧ at_ < e ∧ e ≤ 65536 from ⟨by omega, by omega, by omega, by omega⟩)
      have HEQ := Aside0.mk he
      have HA := Aside0.mk (show 1 ≤ at_ ∧ at_ < l.length from ⟨ha1, ci⟩)
      clear ha1 ha2
      gi_wp2
      refine lays_named fun W0 hW0 => ?_
      obtain ⟨wo, hwo⟩ : ∃ wo : World, wo = wr := ⟨_, rfl⟩
      subst hwo
      have HI0 := Aside0.mk (show BtI wo.heap.size wo.heap.size wo (difD l at_ (at_ - at_)) W0 from (by rw [hW0, Nat.sub_self]; exact ⟨.slice none 0 0, blk_new _ _, World.ownsRow_nil _ _ _ _, below_alloc (Below.refl _ _) _⟩))
      have HLT := Aside0.mk (blk_lt HH.out.hgb)
      have HCB := Aside0.mk (show ∀ W1 W', Below wo.heap.size wo W1 → Below wo.heap.size W1 W' → Kd.C (Kd.int .i64) W' A l.length l from fun W1 W' h1 h2 => Kd.C_below HH.out.hC (HH.out.hb.trans ((h1.trans h2).mono HH.out.hb.size)))
      obtain ⟨gd, hgd⟩ : ∃ gd, gd = wo.heap.size := ⟨_, rfl⟩
      rw [← hgd] at HI0 HLT HCB ⊢
      have HGD := Aside0.mk hgd
      clear hW0 he hgd qb q1 q2
      gi_loopw [6] (fun v6 wr => ∃ i : Nat, v6 = .int .i64 i ∧ at_ ≤ i ∧ i ≤ e ∧ Aside0 (BtI gd gd wo (difD l at_ (i - at_)) wr)) (fun v6 _ => 70000 - (intOf v6).toNat)
      case atStart => exact ⟨at_, rfl, Nat.le_refl _, by have := HE.out; omega, HI0⟩
      case round =>
        clear HI0
        obtain ⟨i, rfl, hi1, hi2, HI⟩ := hrel
        have qb : wr.cell? ⟨gb, 0, none⟩ = some (.slice A l.length c) := by
          obtain ⟨_, _, _, hb⟩ := HI.out
          exact blk_cell ((hb.block gb HLT.out).trans HH.out.hgb) 0
        by_cases ce : i < e
        · have q1 : decide ((i : Int) < (e : Int)) = true := decide_eq_true (by omega)
          have q2 : decide (i < e) = true := decide_eq_true ce
          have he := HEQ.out
          have hwi : IntKind.i64.wrap ((i : Int) + 1) = (i : Int) + 1 := IntWalk.i64_in _ (by have := HE.out; omega)
          have HTK := Aside0.mk (bt_take gd gd gb A c l (difD l at_ (i - at_)) i wr HI.out.here (Nat.le_refl _) HLT.out (by obtain ⟨_, _, _, hb⟩ := HI.out; exact (hb.block gb HLT.out).trans HH.out.hgb) (fun W' h => by obtain ⟨_, _, _, hb⟩ := HI.out; exact HCB.out _ _ hb h) hcc (by have := HA.out; omega) (by have := HE.out; omega) (by omega) (by rw [difD_length]; have := HE.out; omega))
          gi_wp2
          refine ⟨trivial, ?_⟩
          gi_at_call 61
          refine (callsIn_wide.2 HTK.out).mono ?_
          rintro e1 W1 ⟨⟨z, rfl⟩, hI1⟩
          have HI1 := Aside0.mk (show BtI gd gd wo (difD l at_ (i + 1 - at_)) W1 from (by
            have h := HI.out.trans hI1
            have e1 : i + 1 - at_ = (i - at_) + 1 := by omega
            have e2 : (at_ : Int) + ((i - at_ : Nat) : Int) = (i : Int) := by omega
            rw [e1, difD_succ, e2]
            exact h))
          clear hI1 HI HTK qb
          gi_wp2
          go_roundw
          case rel => exact ⟨i + 1, by go_num, by omega, by omega, HI1⟩
          case measure => have := HE.out; simp [intOf]; omega
        · have hie : i = e := by omega
          have q1 : decide ((i : Int) < (e : Int)) = false := decide_eq_false (by omega)
          have q2 : decide (i < e) = false := decide_eq_false ce
          have he := HEQ.out
          obtain ⟨v, h1, h2, h3⟩ := HI.out
          have qd : wr.cell? ⟨gd, 0, none⟩ = some v := blk_cell h1 0
          have hb3 : Below wo.heap.size wo wr := by rw [← HGD.out]; exact h3
          have hP := HP.out
          obtain ⟨d, rfl⟩ : ∃ j, d = j + 1 := ⟨d - 1, by have := HD.out; have := HA.out; omega⟩
          have hxe : difD l at_ (i - at_) = difD l at_ (min (l.length : Int) ((at_ : Int) + 128) - (at_ : Int)).toNat := by
            congr 1; omega
          rw [blksD, if_pos (by have := HA.out; omega), ← hxe] at hP
          have HP2 := Aside0.mk hP
          obtain ⟨fn, tmps, assign, body, hy, hR2⟩ := HY.out pre (v, difD l at_ (i - at_)) wr (HJ.out _ _ _ HJp.out hb3) ⟨⟨gd, by rw [HGD.out]; exact HH.out.hb.size, h2⟩, _, hP⟩ (by rw [← hP]; simp)
          dsimp only at hy
          have HH1 := Aside0.mk (HH.out.step hb3)
          clear h1 h2 h3 hb3 hP hxe HP HI HH HJp hie
          gi_wp2
          refine hR2.mono ?_
          rintro e3 W3 (⟨rfl, hJ3, hk3⟩ | ⟨rfl, hJx3, _⟩)
          · have HH3 := Aside0.mk (HH1.out.but hk3)
            have HJ3 := Aside0.mk hJ3
            clear hJ3 hk3 hy hR2 qb qd
            gi_wp2
            go_roundw
            case rel => exact ⟨at_ + 128, d, pre ++ [(v, difD l at_ (i - at_))], rfl, by omega, by have := HA.out; omega, ⟨by have := HD.out; omega⟩, ⟨by rw [← HP2.out, List.map_append, List.append_assoc]; rfl⟩, HJ3, HH3⟩
            case measure => have := HA.out; simp [intOf]; omega
          · have HJ3 := Aside0.mk hJx3
            clear hJx3 hy hR2
            gi_wp2
            refine bodyPost_ret (results_none rfl _ _ _) rfl ?_
            exact ⟨⟨_, rfl⟩, .inr ⟨_, trivial, HJ3.out⟩⟩
    · have q1 : decide ((at_ : Int) < (l.length : Int)) = false := decide_eq_false (by omega)
      have hP := HP.out
      have hnil : blksD l d at_ = [] := by
        cases d with
        | zero => rfl
        | succ d => rw [blksD, if_neg (by omega)]
      rw [hnil, List.append_nil] at hP
      clear HP hnil
      have HP := Aside0.mk hP
      clear hP
      gi_wp2
      go_end0
      exact ⟨⟨_, rfl⟩, .inl ⟨_, HP.out, HJp.out⟩⟩
end Go.Proofs.Ytcdephhplmcmjaa.X
end

section
namespace Go.Proofs.Ytcdephhplmcmjaa.X
open Go.RowKit Go.Proofs.YtcdephhplmcmjaaW.PrintWords Go.Proofs.YtcdephhplmcmjaaW.PrintLast Go.Proofs.YtcdephhplmcmjaaW.PrintMore
attribute [local go_sem] Oper.semAt_some
set_option linter.unusedVariables false
set_option linter.unusedSimpArgs false
set_option maxHeartbeats 1000000 in
theorem blocks_in (A : Option Addr) (c : Nat) (l : List Int) (w : World) :
    Calls Try.prog 42 #[.slice A l.length c] w fun e w' => e = .returned (.func (.func 60) #[] #[.pointer (some ⟨w.heap.size, 0, none⟩)]) ∧ w' = w.alloc (.cells #[.slice A l.length c] 44) := by
  go_enter Try.func42, Try.ntmps42
  go_wp2
  go_ret
  exact ⟨rfl, rfl⟩
theorem write_long (A : Option Addr) (c : Nat) (l : List Int) (w : World) (hc : l.length ≤ c) (hl : 65536 < l.length) :
    Calls Try.prog 27 #[.slice A l.length c] w fun e w' => e = .returned (.tuple #[.slice none 0 0, .int .i64 3]) ∧ w' = w := by
  have h1b : decide ((l.length : Int) > 65536) = true := decide_eq_true (by omega)
  go_enter Try.func27, Try.ntmps27
  go_wp2
  go_ret2
  exact ⟨rfl, rfl⟩
theorem lit_own (w0 w : World) (hB : Below w0.heap.size w0 w) : (w.alloc (.cells #[.int .u8 128, .int .u8 1, .int .u8 4] 5)).ownsRow w0.heap.size 5 1 (.slice (some ⟨w.heap.size, 0, none⟩) 3 3) [(128 : Int), 1, 4].length (nums .u8 [128, 1, 4]) :=
  ⟨rfl, .inr ⟨w.heap.size, 3, #[.int .u8 128, .int .u8 1, .int .u8 4], rfl, hB.size, blk_new _ _, Nat.le_refl _, by decide, rfl, rfl⟩⟩
theorem lit_num (k : Nat) (x : Int) (r : List Int) (w : World) (h : (delta_number.f k [128, 1, 4] x) = some r) :
    Calls Try.prog 40 #[.slice (some ⟨w.heap.size, 0, none⟩) 3 3, .int .u64 x] (w.alloc (.cells #[.int .u8 128, .int .u8 1, .int .u8 4] 5)) fun e w' => ∃ A c, e = .returned (.slice A r.length c) ∧ w'.ownsRow w.heap.size 5 1 (.slice A r.length c) r.length (nums .u8 r) ∧ Below w.heap.size w w' := by
  refine (delta_number.calls k (fun j => w.heap.size ≤ j) (.slice (some ⟨w.heap.size, 0, none⟩) 3 3) [128, 1, 4] x r w (w.alloc (.cells #[.int .u8 128, .int .u8 1, .int .u8 4] 5)) (below_alloc (Below.refl _ _) _) (Kd.R_of_own (enc := Value.int .u8) (h1 := fun _ => rfl) (lit_own w w (Below.refl _ _)) (fun j hj => by cases hj; exact Nat.le_refl _)) h).mono ?_
  rintro e w' ⟨v, rfl, hR, hB, _⟩
  have ho := Kd.own_of_R (enc := Value.int .u8) (h1 := fun _ => rfl) hR
  obtain ⟨A, c, rfl⟩ := own_formD ho
  exact ⟨A, c, rfl, ho, hB⟩
set_option maxHeartbeats 1000000 in
theorem write_nil (k : Nat) (A : Option Addr) (c : Nat) (r : List Int) (w : World) (h : (delta_number.f k [128, 1, 4] 0) = some r) (hr : r.length ≤ 1000) :
    Calls Try.prog 27 #[.slice A 0 c] w fun e w' => ∃ v, e = .returned (.tuple #[v, .int .i64 0]) ∧ w'.ownsRow w.heap.size 5 1 v (r ++ [0]).length (nums .u8 (r ++ [0])) ∧ Below w.heap.size w w' := by
  have HN := Aside0.mk (lit_num k 0 r w h)
  clear h
  go_enter Try.func27, Try.ntmps27
  go_wp2_with fail
  refine HN.out.mono ?_
  rintro e W1 ⟨A1, c1, rfl, ho, hb⟩
  have HO2 := Aside0.mk (own_belowW ho (below_alloc (Below.refl _ _) (.cells #[.slice A1 r.length c1] 25)))
  have HB2 := Aside0.mk (below_alloc hb (.cells #[.slice A1 r.length c1] 25))
  have HSZ := Aside0.mk (show w.heap.size ≤ (W1.alloc (.cells #[.slice A1 r.length c1] 25)).heap.size from HB2.out.size)
  clear ho hb
  go_wp2_with (first | ((with_reducible refine gate_builtin (b := .append) (xs := #[.tmp 17, .tmp 18]) rfl ?_); at_builtin; refine print_append_num (w0 := w) w.heap.size rfl (.tmp 17) (.tmp 18) 25 5 .u8 1 rfl Try.underlying25 dg_info (by decide) (.slice A1 r.length c1) r 0 rfl (by rw [World.size_alloc]; rfl) HO2.out HB2.out HSZ.out (by omega) ?_; intro v2 w2 ho2 hb2 hg2 hat2; have HO5 := Aside0.mk ho2; have HB5 := Aside0.mk hb2; clear ho2 hb2 hg2 hat2))
  go_wp2
  go_ret2
  exact ⟨v2, rfl, HO5.out, HB5.out⟩
end Go.Proofs.Ytcdephhplmcmjaa.X
end

section
namespace Go.Proofs.Ytcdephhplmcmjaa.X
open Go.RowKit Go.Proofs.YtcdephhplmcmjaaW.PrintWords Go.Proofs.YtcdephhplmcmjaaW.PrintLast Go.Proofs.YtcdephhplmcmjaaW.PrintMore
attribute [local go_sem] Oper.semAt_some
set_option linter.unusedVariables false
set_option linter.unusedSimpArgs false
section
variable {F : Fence} {n : Nat} {P : Program}
theorem wpIn_rangeFunc_lays2 {α : Type} {g : Operand} {ps : Array Tmp} {assign body : Code} {Q : Exit → Act → World → Prop} {a : Act} {w : World}
    (hro : F.round = none) (h1 : 1 ≤ n) {gf : Nat} {lb : Array Value} (hg : a.eval g = .func (.func gf) #[] lb) (hFg : F.fn gf) (eg : ∀ args w, (callFunc gf args).run P w = .ok (.enter gf args) w)
    {encs : α → Array Value} {Ab Kp : World → World → Prop} {G : List α → α → World → Prop} {S Sp : List α → Prop} {N : Nat} (hseq : ∀ o1 o2, SeqLays F (n - 1) P gf lb encs Ab Kp G S Sp N ((w.alloc o1).alloc o2))
    (hAb : ∀ A B : World, Ab A B → KeepsTwo w.heap.size A B) (hKr : ∀ A, Kp A A)
    (hKt : ∀ {A B C : World}, Kp A B → Kp B C → Kp A C) (hKb : ∀ A B : World, Turns w.heap.size A B → Kp A B) (hps : ∀ x, (encs x).size = ps.size)
    (I : List α → World → Prop) (hI : ∀ s A B, I s A → Ab A B → I s B) (hIt : ∀ s A B, I s A → Turns w.heap.size A B → I s B)
    (hG : ∀ pre x A B, G pre x A → Turns w.heap.size A B → G pre x B) (h0 : ∀ o1 o2, I [] ((w.alloc o1).alloc o2)) (a1 : α → Act)
    (hassign : ∀ (l : Nat) (x : α) (W : World) (K : Act → World → Prop), K (a1 x) W →
      assign.wpIn (F.inRound l) (n - 1 - 1) P (Exit.then K (fun _ _ _ => False)) { tmps := (ps.zip (encs x)).foldl (fun t (p, v) => t.setIfInBounds p v) a.tmps, defers := [] } W)
    (hbody : ∀ (l : Nat) (pre : List α) (x : α) (W : World), I pre W → G pre x W → pre.length < N → body.wpIn (F.inRound l) (n - 1 - 1) P (postLays w.heap.size Kp I (fun _ _ _ => False) (pre ++ [x]) W) (a1 x) W)
    (hdone : ∀ (D : Nat) (xs : List α) (W : World), w.heap.size ≤ D → D < w.heap.size + 2 → S xs → I xs W → W.heap[D]? = some (.deferred (some [])) → Q .normal { a with defers := { target := .collected D, args := #[] } :: a.defers } W) :
    (Code.rangeFunc g ps assign body).wpIn F n P Q a w :=
  wpIn_rangeFunc_lays hro h1 hg hFg eg hseq hAb hKt hKb hps I (fun _ _ _ => False) hI (fun _ _ _ _ h _ => h.elim) hIt (fun _ _ _ _ h _ => h.elim) h0 (fun pre x a' W => a' = a1 x ∧ I pre W ∧ G pre x W) (fun pre x a' A B h ht => ⟨h.1, hIt _ _ _ h.2.1 ht, hG _ _ _ _ h.2.2 ht⟩)
    (fun l pre x W K hi hg hl hK => hassign l x W K (hK _ _ (fun _ _ _ _ h _ => h) (hKr _) ⟨rfl, hi, hg⟩))
    (fun l pre x a' W h hl => by obtain ⟨rfl, hi, hg⟩ := h; exact hbody l pre x W hi hg hl) hdone (fun _ _ _ _ _ _ _ h _ => h.elim)
end
theorem shut_then {F : Fence} {n : Nat} {P : Program} {K : Act → World → Prop} {Q : Exit → Act → World → Prop} {c : Code} {a : Act} {w : World} (h : c.wpIn F n P (Exit.then K (fun _ _ _ => False)) a w) : c.wpIn F n P (Exit.then K Q) a w :=
  wpIn_mono h fun e a w hq => by cases e <;> first | exact hq | exact hq.elim
theorem own_turns {B base n size : Nat} {e : TypeId} {v : Value} {xs : List Value} {W W' : World} (h : W.ownsRow base e size v n xs) (ht : Turns B W W') : W'.ownsRow base e size v n xs := by
  obtain ⟨k, o, o', _, _, hk, hc, _, rfl⟩ := ht
  refine own_other h (grownBy_putObj' W k o') ?_
  obtain ⟨_, ⟨rfl, _⟩ | ⟨g, cap, cur, rfl, hb, hh, _⟩⟩ := h
  · left; rfl
  · right
    intro he
    have : g = k := by simpa [Value.ownBlock] using he
    subst this
    rw [hk] at hh
    cases hh
    cases hc
structure WrS (w : World) (go gb : Nat) (A : Option Addr) (c n : Nat) (out : List Int) (Av : Option Addr) (cv : Nat) (W : World) : Prop where
  hgo : W.heap[go]? = some (.cells #[.slice Av out.length cv] 25 (0, 0))
  ho : W.ownsRow w.heap.size 5 1 (.slice Av out.length cv) out.length (nums .u8 out)
  hb : Below w.heap.size w W
  hgb : W.heap[gb]? = some (.cells #[.slice A n c] 44 (0, 0))
theorem WrS.grow {w W W' : World} {go gb c n cv : Nat} {A Av : Option Addr} {out : List Int} (h : WrS w go gb A c n out Av cv W) (hb : Below W.heap.size W W') : WrS w go gb A c n out Av cv W' :=
  ⟨blk_below h.hgo hb, own_belowW h.ho hb, h.hb.trans (hb.mono h.hb.size), blk_below h.hgb hb⟩
theorem WrS.turns {w W W' : World} {go gb c n cv B : Nat} {A Av : Option Addr} {out : List Int} (h : WrS w go gb A c n out Av cv W) (ht : Turns B W W') (h1 : go < B) (h2 : gb < B) (h3 : w.heap.size ≤ B) : WrS w go gb A c n out Av cv W' :=
  ⟨ht.at h.hgo (.inl h1), own_turns h.ho ht, h.hb.trans (ht.below h3 h.hb.size), ht.at h.hgb (.inl h2)⟩
theorem wr_laid (k : Nat) (Av : Option Addr) (cv : Nat) (out d r : List Int) (vd : Value) (s : Nat) (w W : World) (hB : Below w.heap.size w W) (ho : W.ownsRow w.heap.size 5 1 (.slice Av out.length cv) out.length (nums .u8 out)) (hd : W.ownsRow s 2 1 vd d.length (nums .i64 d)) (hn : d.length ≤ 128) (h : laidF k out d = some r) :
    Calls Try.prog 43 #[.slice Av out.length cv, vd] W fun e W' => ∃ A' c', e = .returned (.slice A' r.length c') ∧ W'.ownsRow w.heap.size 5 1 (.slice A' r.length c') r.length (nums .u8 r) ∧ Below w.heap.size w W' ∧ Kept W W' (fun j => (Value.slice Av out.length cv).ownBlock = some j) := by
  obtain ⟨Ad, cd, rfl⟩ := own_formD hd
  have hRd := Kd.R_of_own (enc := Value.int .i64) (h1 := fun _ => rfl) (ok := fun j => (Value.slice Ad d.length cd).ownBlock = some j) hd (fun j hj => hj)
  have hne := own_type_ne hd ho (by decide)
  have hdd : ∀ W', Kept W W' (fun j => (Value.slice Av out.length cv).ownBlock = some j) → Kd.C (Kd.int .i64) W' Ad d.length d := Kd.C_kept_own hRd (fun j hj hj2 => by
    rcases hne with h0 | h0
    · rw [h0] at hj; cases hj
    · exact h0 (hj.trans hj2.symm))
  have hcc : d.length ≤ cd := (Kd.R_reads' hRd).2.1
  refine (dw_laid k (fun j => (Value.slice Av out.length cv).ownBlock = some j) (.slice Av out.length cv) out d r Ad cd w W hB (Kd.R_of_own (enc := Value.int .u8) (h1 := fun _ => rfl) ho (fun j hj => hj)) hdd hcc hn h).mono ?_
  rintro e W' ⟨v', rfl, hR, hb, hk⟩
  have ho' := Kd.own_of_R (enc := Value.int .u8) (h1 := fun _ => rfl) hR
  obtain ⟨A', c', rfl⟩ := own_formD ho'
  exact ⟨A', c', rfl, ho', hb, hk⟩
theorem wr_signed (k : Nat) (Av : Option Addr) (cv : Nat) (out r : List Int) (x : Int) (w W : World) (hB : Below w.heap.size w W) (ho : W.ownsRow w.heap.size 5 1 (.slice Av out.length cv) out.length (nums .u8 out)) (h : delta_signed.f k out x = some r) :
    Calls Try.prog 41 #[.slice Av out.length cv, .int .i64 x] W fun e W' => ∃ A' c', e = .returned (.slice A' r.length c') ∧ W'.ownsRow w.heap.size 5 1 (.slice A' r.length c') r.length (nums .u8 r) ∧ Below w.heap.size w W' ∧ Kept W W' (fun j => (Value.slice Av out.length cv).ownBlock = some j) := by
  refine (delta_signed.calls k (fun j => (Value.slice Av out.length cv).ownBlock = some j) (.slice Av out.length cv) out x r w W hB (Kd.R_of_own (enc := Value.int .u8) (h1 := fun _ => rfl) ho (fun j hj => hj)) h).mono ?_
  rintro e W' ⟨v', rfl, hR, hb, hk⟩
  have ho' := Kd.own_of_R (enc := Value.int .u8) (h1 := fun _ => rfl) hR
  obtain ⟨A', c', rfl⟩ := own_formD ho'
  exact ⟨A', c', rfl, ho', hb, hk⟩
theorem wr_setsize (W : World) (p : Addr) (v : Value) : (W.setCell p v).heap.size = W.heap.size := by show (W.heap.modify _ _).size = _; rw [Array.size_modify]
def WrI (k : Nat) (w : World) (go gb : Nat) (A : Option Addr) (c n : Nat) (o2 : List Int) (pre : List (Value × List Int)) (W : World) : Prop :=
  ∃ out Av cv, (pre.map Prod.snd).foldlM (laidF k) o2 = some out ∧ WrS w go gb A c n out Av cv W
theorem WrI.grow {k : Nat} {w W W' : World} {go gb c n : Nat} {A : Option Addr} {o2 : List Int} {pre : List (Value × List Int)} (h : WrI k w go gb A c n o2 pre W) (hb : Below W.heap.size W W') : WrI k w go gb A c n o2 pre W' := by
  obtain ⟨out, Av, cv, hf, hS⟩ := h
  exact ⟨out, Av, cv, hf, hS.grow hb⟩
theorem WrI.turns {k : Nat} {w W W' : World} {go gb c n B : Nat} {A : Option Addr} {o2 : List Int} {pre : List (Value × List Int)} (h : WrI k w go gb A c n o2 pre W) (ht : Turns B W W') (h1 : go < B) (h2 : gb < B) (h3 : w.heap.size ≤ B) : WrI k w go gb A c n o2 pre W' := by
  obtain ⟨out, Av, cv, hf, hS⟩ := h
  exact ⟨out, Av, cv, hf, hS.turns ht h1 h2 h3⟩
theorem wr_fold {k : Nat} {l o2 r out d : List Int} {pre rest : List (List Int)} (hr : (allD l).foldlM (laidF k) o2 = some r) (hf : pre.foldlM (laidF k) o2 = some out) (he : pre ++ d :: rest = allD l) : ∃ out', laidF k out d = some out' := by
  rw [← he, List.foldlM_append, hf] at hr
  cases h : laidF k out d with
  | none => simp [h] at hr
  | some o => exact ⟨o, rfl⟩
theorem wr_snoc {k : Nat} {o2 out out' : List Int} {pre : List (Value × List Int)} {x : Value × List Int} (hf : (pre.map Prod.snd).foldlM (laidF k) o2 = some out) (h : laidF k out x.2 = some out') : ((pre ++ [x]).map Prod.snd).foldlM (laidF k) o2 = some out' := by
  rw [List.map_append, List.foldlM_append, hf]
  simp [h]
theorem blksD_le (l : List Int) : ∀ (d : Nat) (at_ : Int), ∀ x ∈ blksD l d at_, x.length ≤ 128
  | 0, _, x, h => by cases h
  | d + 1, at_, x, h => by
    rw [blksD] at h
    split at h
    · rcases List.mem_cons.1 h with rfl | h
      · rw [difD_length]; omega
      · exact blksD_le l d _ x h
    · cases h
theorem allD_le {l d : List Int} {pre rest : List (List Int)} (he : pre ++ d :: rest = allD l) : d.length ≤ 128 := blksD_le l 600 1 d (by show d ∈ allD l; rw [← he]; simp)
theorem wr_keeps {w W W7 : World} {go gb c n cv : Nat} {A Av : Option Addr} {out : List Int} (h : WrS w go gb A c n out Av cv W) (hk : Kept W W7 (fun j => (Value.slice Av out.length cv).ownBlock = some j)) (hgo : w.heap.size ≤ go) :
    W7.heap[go]? = some (.cells #[.slice Av out.length cv] 25 (0, 0)) ∧ W7.heap[gb]? = some (.cells #[.slice A n c] 44 (0, 0)) :=
  ⟨blk_kept h.hgo hk (fun e => own_ne h.ho h.hgo (by decide) e.symm), blk_kept h.hgb hk (fun e => own_ne h.ho h.hgb (by decide) e.symm)⟩
theorem wr_round {w W W7 : World} {go gb c n cv c7 : Nat} {A Av A7 : Option Addr} {out out' : List Int} {B : Nat} (h : WrS w go gb A c n out Av cv W) (ho : W7.ownsRow w.heap.size 5 1 (.slice A7 out'.length c7) out'.length (nums .u8 out')) (hb : Below w.heap.size w W7) (hk : Kept W W7 (fun j => (Value.slice Av out.length cv).ownBlock = some j)) (hgo : w.heap.size ≤ go) (hne : go ≠ gb) :
    KeepsTwo B W (W7.setCell ⟨go, 0, none⟩ (.slice A7 out'.length c7)) ∧ KeepsBut (fun j => w.heap.size ≤ j ∧ j ≠ gb) W (W7.setCell ⟨go, 0, none⟩ (.slice A7 out'.length c7)) ∧ WrS w go gb A c n out' A7 c7 (W7.setCell ⟨go, 0, none⟩ (.slice A7 out'.length c7)) := by
  obtain ⟨g1, g2⟩ := wr_keeps h hk hgo
  have hgr : W.heap.size ≤ W7.heap.size := hk.1
  refine ⟨fun j o h1 h2 hj hc => ?_, ⟨?_, ?_, ?_, ?_, fun j hj hx => ?_⟩, ⟨blk_set g1 0 _, own_setCell ho (own_ne ho g1 (by decide)) _, hb.setCell hgo _, blk_far g2 (p := ⟨go, 0, none⟩) (by simp only []; omega) _⟩⟩
  · have e1 : j ≠ go := fun e => by rw [e, h.hgo] at hj; cases hj; cases hc
    have e2 : (Value.slice Av out.length cv).ownBlock ≠ some j := fun e => by
      obtain ⟨cells, hcl⟩ := own_typed h.ho j e
      rw [hcl] at hj; cases hj; cases hc
    exact (Below.heap_setCell W7 ⟨go, 0, none⟩ _ j e1).trans ((hk.2 j (blk_lt hj) e2).trans hj)
  · exact hb.os.trans h.hb.os.symm
  · exact hb.tape.trans h.hb.tape.symm
  · exact hb.output.trans h.hb.output.symm
  · rw [wr_setsize]; exact hgr
  · have e1 : j ≠ go := fun e => hx ⟨by omega, by omega⟩
    have e2 : (Value.slice Av out.length cv).ownBlock ≠ some j := fun e => by
      refine hx ⟨(World.ownsRow.lt h.ho j e).1, fun e3 => ?_⟩
      subst e3
      exact own_ne h.ho h.hgb (by decide) e.symm
    exact (Below.heap_setCell W7 ⟨go, 0, none⟩ _ j e1).trans (hk.2 j hj e2)
def writeB (k : Nat) (l : List Int) : Option (List Int) := (delta_number.f k [128, 1, 4] l.length).bind fun o => if l.length = 0 then some (o ++ [0]) else (delta_signed.f k o (rd l 0)).bind fun o => (allD l).foldlM (laidF k) o
set_option maxRecDepth 100000 in
set_option maxHeartbeats 4000000 in
theorem write_main (k : Nat) (A : Option Addr) (c : Nat) (l o1 o2 r : List Int) (w : World) (hC : Kd.C (Kd.int .i64) w A l.length l) (hc : l.length ≤ c) (h0 : 0 < l.length) (hl : l.length ≤ 65536)
    (ho1 : delta_number.f k [128, 1, 4] l.length = some o1) (ho2 : delta_signed.f k o1 (rd l 0) = some o2) (hr : (allD l).foldlM (laidF k) o2 = some r) (n : Nat) (hn : 6 ≤ n) :
    CallsIn Fence.wide n Try.prog 27 #[.slice A l.length c] w fun e w' => ∃ v, e = .returned (.tuple #[v, .int .i64 0]) ∧ w'.ownsRow w.heap.size 5 1 v r.length (nums .u8 r) ∧ Below w.heap.size w w' := by
  have hro : Fence.wide.round = none := rfl
  have HN := Aside0.mk (lit_num k l.length o1 w ho1)
  have HC := Aside0.mk hC
  have HR := Aside0.mk hr
  have HO2 := Aside0.mk ho2
  have h1n : 1 ≤ n := by omega
  have HNN := Aside0.mk hn
  have hcv : IntKind.u64.wrap (l.length : Int) = (l.length : Int) := by rw [IntKind.wrap_u64]; omega
  have h1b : decide ((l.length : Int) > 65536) = false := decide_eq_false (by omega)
  have hz : ((l.length : Int) == 0) = false := beq_eq_false_iff_ne.2 (by omega)
  obtain ⟨ad, rfl, he0⟩ := c_at hC 0 (by omega) (by omega)
  have HE0 := Aside0.mk he0
  clear hC hr ho1 ho2 he0 hn
  refine callsIn_of_wp_marks Try.func27 rfl trivial ?_ hro
  simp only [Try.ntmps27, List.size_toArray, List.length_cons, List.length_nil, Nat.reduceAdd, Nat.reduceSub, Array.replicate_succ, Array.replicate_zero, List.push_toArray, List.append_toArray, List.nil_append, List.cons_append]
  gi_wp2_with (refine ⟨trivial, ?_⟩; gi_at_call 40; refine (callsIn_wide.2 HN.out).mono ?_; rintro e W1 ⟨A1, c1, rfl, ho, hb⟩; have HO1 := Aside0.mk ho; have HB1 := Aside0.mk hb; clear ho hb)
  obtain ⟨x0, hx0⟩ : ∃ x0, x0 = rd l 0 := ⟨_, rfl⟩
  rw [← hx0] at HO2
  have hE0 := HE0.out
  rw [← hx0, show ad.add (Int.toNat 0) = ad from by simp [Addr.add]] at hE0
  have HS := Aside0.mk (show ∀ W', Below w.heap.size w W' → W'.cell? ad = some (.int .i64 x0) from fun W' hb => by
    have hlt : ad.block < w.heap.size := by
      have := World.block_lt_of_cell? w ad hE0
      exact this
    rw [hb.cell hlt]; exact hE0)
  have hlt0 : (0 : Int) < (l.length : Int) := by omega
  have HW1 := Aside0.mk (below_alloc HB1.out (.cells #[.slice A1 o1.length c1] 25))
  refine shut_then ?_
  refine wpIn_wide.2 ?_
  refine wp_region_held_drew (S := fun w' => w'.cell? ad = some (.int .i64 x0)) (by kernel_rfl) (HS.out _ (below_drew1 HW1.out)) (fun hHeld => ?_)
  refine anyH_named fun w3 hw3 => ?_
  have hHeld2 : w3.cell? ad = some (.int .i64 x0) := by rw [hw3]; exact hHeld
  clear hHeld
  have hHeld := hHeld2
  clear hHeld2
  obtain ⟨go, hgo⟩ : ∃ go, go = W1.heap.size := ⟨_, rfl⟩
  rw [← hgo]
  have HB3 := Aside0.mk (show Below w.heap.size w w3 from (by rw [hw3]; exact below_drew1 HW1.out))
  have HO3 := Aside0.mk (show w3.ownsRow w.heap.size 5 1 (.slice A1 o1.length c1) o1.length (nums .u8 o1) from (by rw [hw3]; exact (own_belowW HO1.out (below_alloc (Below.refl _ _) _)).drew))
  have HG3 := Aside0.mk (show w3.heap[go]? = some (.cells #[.slice A1 o1.length c1] 25 (0, 0)) from (by rw [hw3, hgo]; exact blk_new _ _))
  have HGO := Aside0.mk (show w.heap.size ≤ go from (by rw [hgo]; exact HB1.out.size))
  have q3 : w3.cell? ⟨go, 0, none⟩ = some (.slice A1 o1.length c1) := blk_cell HG3.out 0
  clear hw3 hgo hE0 HE0 hx0 HO1 HB1 HW1 HN
  refine wpAnyH_take (i := 1) (oi := { dst := some 21, op := Op.move (Operand.tmp 0), type := 44, pos := "delta.go:105", after := #[], guard := none }) (v := .slice (some ad) l.length c) rfl (by kernel_rfl) (by kernel_rfl) (by kernel_rfl) (fun _ _ _ h => h) (Or.inl ⟨by rfl, ?_⟩) (by assumption) ?_
  · (intro w hSw; (try dsimp only at hSw); go_simp)
  try simp only [Act.put, List.setIfInBounds_toArray, List.set_cons_zero, List.set_cons_succ]
  refine wpAnyH_take (i := 2) (oi := { dst := some 22, op := Op.indexAddr 44 (Operand.tmp 21) (Operand.const (Value.int IntKind.i64 0)), type := 0, pos := "delta.go:105", after := #[{ on := 1, ground := Ground.data }], guard := none }) (v := .pointer (some ad)) rfl (by kernel_rfl) (by kernel_rfl) (by kernel_rfl) (fun _ _ _ h => h) (Or.inl ⟨by rfl, ?_⟩) (by assumption) ?_
  · (intro w hSw; (try dsimp only at hSw); go_simp)
  try simp only [Act.put, List.setIfInBounds_toArray, List.set_cons_zero, List.set_cons_succ]
  refine wpAnyH_take (i := 3) (oi := { dst := some 23, op := Op.load 2 (Operand.tmp 22), type := 2, pos := "delta.go:105", after := #[{ on := 2, ground := Ground.data }], guard := none }) (v := .int .i64 x0) rfl (by kernel_rfl) (by kernel_rfl) (by kernel_rfl) (fun _ _ _ h => h) (Or.inl ⟨by rfl, ?_⟩) (by assumption) ?_
  · (intro w hSw; (try dsimp only at hSw); go_simp)
  try simp only [Act.put, List.setIfInBounds_toArray, List.set_cons_zero, List.set_cons_succ]
  refine wpAnyH_ready (rs := [0]) (by kernel_rfl) (by simp) ?_
  refine AllReadyH.cons (o := { dst := some 20, op := Op.load 25 (Operand.tmp 4), type := 25, pos := "delta.go:105", after := #[], guard := none }) rfl (fun K hK => ?_) ?_
  · go_simp
    refine hK.out _ _ (HS.out _ HB3.out) (fun hHeld2 => ?_)
    clear hK K hHeld
    have hHeld := hHeld2
    clear hHeld2
    try simp only [Act.put, List.setIfInBounds_toArray, List.set_cons_zero, List.set_cons_succ]
    refine wpAnyH_ready (rs := [4]) (by kernel_rfl) (by simp) ?_
    refine AllReadyH.cons (o := { dst := some 24, op := Op.call { callee := Callee.value (Operand.func 41), args := #[Operand.tmp 20, Operand.tmp 23], argTypes := #[25, 2] }, type := 25, pos := "delta.go:105", after := #[{ on := 0, ground := Ground.data }, { on := 3, ground := Ground.data }], guard := none }) rfl (fun K hK => ?_) ?_
    · go_simp
      go_at_call 41
      refine (wr_signed k A1 c1 o1 o2 x0 w w3 HB3.out HO3.out HO2.out).mono ?_
      rintro e W4 ⟨A2, c2, rfl, ho, hb, hk⟩
      have hgo4 : W4.heap[go]? = some (.cells #[.slice A1 o1.length c1] 25 (0, 0)) := blk_kept HG3.out hk (fun h => own_ne HO3.out HG3.out (by decide) h.symm)
      have qg := blk_cell hgo4 0
      have fg := blk_frozen hgo4 0
      have hset := blk_set hgo4 0 (.slice A2 o2.length c2)
      have HO5 := Aside0.mk (own_setCell ho (own_ne ho hgo4 (by decide)) (p := ⟨go, 0, none⟩) (.slice A2 o2.length c2))
      have HB4 := Aside0.mk hb
      have HB5 := Aside0.mk (hb.setCell (p := ⟨go, 0, none⟩) HGO.out (.slice A2 o2.length c2))
      have HG5 := Aside0.mk (show (W4.setCell ⟨go, 0, none⟩ (.slice A2 o2.length c2)).heap[go]? = some (.cells #[.slice A2 o2.length c2] 25 (0, 0)) from hset)
      clear ho hb hk hgo4 hset q3
      refine hK.out _ _ (HS.out _ HB4.out) (fun hHeld2 => ?_)
      clear hK K hHeld
      have hHeld := hHeld2
      clear hHeld2
      try simp only [Act.put, List.setIfInBounds_toArray, List.set_cons_zero, List.set_cons_succ]
      refine wpAnyH_ready (rs := [5]) (by kernel_rfl) (by simp) ?_
      refine AllReadyH.cons (o := { dst := none, op := Op.store 25 (Operand.tmp 4) (Operand.tmp 24), type := 0, pos := "delta.go:105", after := #[{ on := 4, ground := Ground.data }, { on := 4, ground := Ground.chain }, { on := 0, ground := Ground.phase }, { on := 1, ground := Ground.phase }, { on := 2, ground := Ground.phase }, { on := 3, ground := Ground.phase }, { on := 4, ground := Ground.phase }], guard := none }) rfl (fun K hK => ?_) ?_
      · go_simp
        refine hK.out _ _ (HS.out _ HB5.out) (fun hHeld2 => ?_)
        clear hK K hHeld
        have hHeld := hHeld2
        clear hHeld2
        try simp only [Act.put, List.setIfInBounds_toArray, List.set_cons_zero, List.set_cons_succ]
        refine wpAnyH_done (by kernel_rfl) ?_ _
        gi_wp2_with (refine ⟨trivial, ?_⟩; gi_at_call 42; refine (callsIn_wide.2 (blocks_in (some ad) c l _)).mono ?_; rintro e w' ⟨rfl, rfl⟩)
        refine lays_named fun W6 hW6 => ?_
        obtain ⟨gb, hgb⟩ : ∃ gb, gb = W4.heap.size := ⟨_, rfl⟩
        rw [← hgb]
        have HS0 := Aside0.mk (show WrS w go gb (some ad) c l.length o2 A2 c2 W6 from by
          have hz5 : (W4.setCell ⟨go, 0, none⟩ (.slice A2 o2.length c2)).heap.size = gb := by rw [hgb]; exact wr_setsize _ _ _
          have hb := below_alloc (Below.refl (W4.setCell ⟨go, 0, none⟩ (.slice A2 o2.length c2)).heap.size (W4.setCell ⟨go, 0, none⟩ (.slice A2 o2.length c2))) (.cells #[.slice (some ad) l.length c] 44)
          rw [hW6]
          exact ⟨blk_below HG5.out hb, own_belowW HO5.out hb, HB5.out.trans (hb.mono HB5.out.size), by have h := blk_new (W4.setCell ⟨go, 0, none⟩ (.slice A2 o2.length c2)) (.cells #[.slice (some ad) l.length c] 44); rwa [hz5] at h⟩)
        have HLT := Aside0.mk (show go < gb ∧ gb < W6.heap.size from ⟨by have := blk_lt HG5.out; rw [wr_setsize] at this; omega, blk_lt HS0.out.hgb⟩)
        clear hW6 hgb HO5 HB4 HB5 HG5 HO3 HB3 HG3 qg fg hHeld HS
        refine wpIn_rangeFunc_lays2 (encs := fun x : Value × List Int => #[x.1]) (Ab := fun P Q => Below P.heap.size P Q) (Kp := KeepsBut (fun j => w.heap.size ≤ j ∧ j ≠ gb)) (G := blkG w l) (S := fun xs => xs.map Prod.snd = allD l) (Sp := fun _ => True) (N := (allD l).length) hro h1n (gf := 60) (lb := #[.pointer (some ⟨gb, 0, none⟩)]) rfl trivial (enters_of Try.func60 (by kernel_rfl) rfl)
          ?hseq (fun P Q h j o h1 h2 hj hcc => (h.block j (blk_lt hj)).trans hj) (fun P => KeepsBut.refl _ P) (fun h j => h.trans j) (fun P Q h => KeepsBut.of_turns h (fun j h1 h2 => ⟨by have := HLT.out; have := HGO.out; omega, by have := HLT.out; omega⟩)) (fun _ => rfl)
          (WrI k w go gb (some ad) c l.length o2) (fun pre P Q h hb => h.grow hb) (fun pre P Q h ht => h.turns ht (by have := HLT.out; omega) (by have := HLT.out; omega) (by have := HLT.out; have := HGO.out; omega)) (fun pre x P Q h ht => ⟨⟨h.1.choose, h.1.choose_spec.1, own_turns h.1.choose_spec.2 ht⟩, h.2⟩)
          (fun q1 q2 => ⟨o2, A2, c2, rfl, HS0.out.grow (below_step (below_alloc (Below.refl _ _) _) (below_alloc (Below.refl _ _) _))⟩) ?a1 ?assign ?body ?done
        case hseq =>
          intro q1 q2
          have hS := HS0.out.grow (below_step (below_alloc (Below.refl W6.heap.size W6) q1) (below_alloc (Below.refl _ _) q2))
          exact blk1_lays (n - 1) (by have := HNN.out; omega) ⟨HC.out, hc, hl, hS.hb, hS.hgb, fun j h => h.1, fun h => h.2 rfl⟩
        case assign =>
          intro lr x Wa K hK
          gi_wp2
          exact hK
        case body =>
          rintro lr pre x Wr ⟨out, Av, cv, hf, hS⟩ ⟨⟨s, hs, hd⟩, rest, hrest⟩ hlen
          obtain ⟨out', hlo⟩ := wr_fold HR.out hf hrest
          have HS1 := Aside0.mk hS
          have HF := Aside0.mk (wr_snoc hf hlo)
          have HL := Aside0.mk (wr_laid k Av cv out x.2 out' x.1 s w Wr hS.hb hS.ho hd (allD_le hrest) hlo)
          have qg : Wr.cell? ⟨go, 0, none⟩ = some (.slice Av out.length cv) := blk_cell hS.hgo 0
          have hn3 : 1 ≤ n - 1 - 1 := by have := HNN.out; omega
          clear hf hS hs hd hrest hlen hlo HR HS0
          gi_wp2_with (refine ⟨trivial, ?_⟩; gi_at_call 43; refine (CallsIn.inRound lr (callsIn_wide.2 HL.out)).mono ?_; rintro e W7 ⟨A7, c7, rfl, ho, hb, hk⟩; have HE7 := Aside0.mk (wr_round (B := W6.heap.size) HS1.out ho hb hk HGO.out (by have := HLT.out; omega)); have HW7 := Aside0.mk (wr_keeps HS1.out hk HGO.out); have q7 : W7.cell? ⟨go, 0, none⟩ = some (.slice Av out.length cv) := blk_cell HW7.out.1 0; have f7 : W7.frozen? ⟨go, 0, none⟩ = false := blk_frozen HW7.out.1 0; have HB7 := Aside0.mk hb; clear ho hb hk)
          exact ⟨HE7.out.1, HE7.out.2.1, out', A7, c7, HF.out, HE7.out.2.2⟩
        case done =>
          rintro D xs Wd hD1 hD2 hxs ⟨out, Av, cv, hf, hS⟩ hDD
          obtain rfl : out = r := by rw [hxs, HR.out] at hf; exact (Option.some.inj hf).symm
          have qg : Wd.cell? ⟨go, 0, none⟩ = some (.slice Av out.length cv) := blk_cell hS.hgo 0
          have HS1 := Aside0.mk hS
          have HDD := Aside0.mk hDD
          clear hS hDD hf hxs HS0
          gi_wp2
          have hgr := grownBy_putObj' Wd D (.deferred none)
          refine ⟨by simp, .inl ⟨_, _, rfl, run_takeDeferred HDD.out, ?_⟩⟩
          refine ⟨_, results_tmp2 rfl _ _ _, _, rfl, ?_, ?_⟩
          · refine own_other HS1.out.ho hgr ?_
            obtain ⟨_, ⟨h, _⟩ | ⟨g, cap, cur, h, hb, hh, _⟩⟩ := HS1.out.ho
            · rw [h]; left; rfl
            · rw [h]; right
              intro he
              have : g = D := by simpa [Value.ownBlock] using he
              subst this
              rw [HDD.out] at hh
              cases hh
          · exact HS1.out.hb.trans (belowK_b (w := w) (Nat.le_refl _) Wd D _ (.deferred none) (by have := HLT.out; have := HGO.out; omega) HDD.out rfl rfl)
      exact AllReadyH.nil
    exact AllReadyH.nil
  exact AllReadyH.nil
theorem number_zero {k : Nat} {l o : List Int} (h : delta_number.f k l 0 = some o) : o = l ++ [0] := by
  unfold delta_number.f at h
  cases k with
  | zero => simp [delta_number.l0] at h
  | succ k =>
    rw [delta_number.l0, if_neg (by omega)] at h
    split at h
    · simpa using h.symm
    · simp at h
theorem write_calls (k : Nat) (A : Option Addr) (c : Nat) (l r : List Int) (w : World) (hC : Kd.C (Kd.int .i64) w A l.length l) (hc : l.length ≤ c) (hl : l.length ≤ 65536) (h : writeB k l = some r) :
    Calls Try.prog 27 #[.slice A l.length c] w fun e w' => ∃ v, e = .returned (.tuple #[v, .int .i64 0]) ∧ w'.ownsRow w.heap.size 5 1 v r.length (nums .u8 r) ∧ Below w.heap.size w w' := by
  unfold writeB at h
  obtain ⟨o1, h1, h⟩ := Option.bind_eq_some_iff.1 h
  by_cases h0 : l.length = 0
  · rw [if_pos h0] at h
    obtain rfl := Option.some.inj h
    rw [h0] at h1 ⊢
    have h1' : delta_number.f k [128, 1, 4] 0 = some o1 := h1
    have := number_zero h1'
    exact write_nil k A c o1 w h1' (by rw [this]; simp)
  · rw [if_neg h0] at h
    obtain ⟨o2, h2, h⟩ := Option.bind_eq_some_iff.1 h
    exact (callsIn_wide (n := 6)).1 (write_main k A c l o1 o2 r w hC hc (by omega) hl h1 h2 h 6 (Nat.le_refl _))
end Go.Proofs.Ytcdephhplmcmjaa.X
end

section
namespace Go.Proofs.Ytcdephhplmcmjaa.X
open Go.RowKit Go.Proofs.YtcdephhplmcmjaaW.PrintWords Go.Proofs.YtcdephhplmcmjaaW.PrintLast Go.Proofs.YtcdephhplmcmjaaW.PrintMore
attribute [local go_sem] max2_int min2_int max_two min_two max_three min_three max_four min_four
set_option linter.unusedVariables false
set_option linter.unusedSimpArgs false
theorem laidP_mono (k : Nat) (least : Int) (d : List Int) : ∀ (n i : Nat) (ws ps : List Int), LeO (laidP k least d n i ws ps) (laidP (k + 1) least d n i ws ps)
  | 0, i, ws, ps => LeO.refl _
  | n + 1, i, ws, ps => by
    unfold laidP
    exact LeO.ite (LeO.bind (delta_Pack.mono _ _ _) (fun p => LeO.ite (laidP_mono k least d n _ _ _) (LeO.refl _))) (LeO.refl _)
theorem laidF_mono (k : Nat) (out d : List Int) : LeO (laidF k out d) (laidF (k + 1) out d) := by
  unfold laidF
  exact LeO.bind (LeO.refl _) (fun least => LeO.bind (delta_signed.mono _ _ _) (fun o2 => LeO.ite (LeO.bind (laidP_mono _ _ _ _ _ _ _) (fun q => LeO.refl _)) (LeO.refl _)))
theorem laidA_mono (k : Nat) : ∀ (ds : List (List Int)) (o : List Int), LeO (ds.foldlM (laidF k) o) (ds.foldlM (laidF (k + 1)) o)
  | [], o => LeO.refl _
  | d :: ds, o => by
    rw [List.foldlM_cons, List.foldlM_cons]
    exact LeO.bind (laidF_mono k o d) (fun o' => laidA_mono k ds o')
theorem writeB_mono (k : Nat) (l : List Int) : LeO (writeB k l) (writeB (k + 1) l) := by
  unfold writeB
  exact LeO.bind (delta_number.mono _ _ _) (fun o => LeO.ite (LeO.refl _) (LeO.bind (delta_signed.mono _ _ _) (fun o => laidA_mono k _ o)))
def delta_Write.f (k : Nat) (l0 : List Int) : Option (List Int × Int) := if 65536 < (l0.length : Int) then some ([], 3) else (writeB k l0).bind fun r => some (r, 0)
theorem delta_Write.mono : ∀ l0 k, LeO (delta_Write.f k l0) (delta_Write.f (k + 1) l0) := by
  intro l0 k
  unfold delta_Write.f
  exact LeO.ite (LeO.refl _) (LeO.bind (writeB_mono k l0) (fun _ => LeO.refl _))
theorem delta_Write.calls (k : Nat) (A0 : Option Addr) (c0 : Nat) (l0 : List Int) (r1 : List Int) (r2 : Int) (w : World) (hr0 : Kd.C (Kd.int .i64) w A0 l0.length l0) (hc0 : l0.length ≤ c0) (h : delta_Write.f k l0 = some (r1, r2)) :
    Calls Try.prog 27 #[.slice A0 l0.length c0] w fun e w' => ∃ v0_ : Value, e = .returned (.tuple #[v0_, .int .i64 r2]) ∧ Kd.R (Kd.int .u8) 5 w' w.heap.size (fun _ => True) v0_ r1 ∧ Below w.heap.size w w' := by
  unfold delta_Write.f at h
  by_cases hl : 65536 < (l0.length : Int)
  · rw [if_pos hl] at h
    obtain ⟨rfl, rfl⟩ : [] = r1 ∧ 3 = r2 := by simpa using h
    refine (write_long A0 c0 l0 w hc0 (by omega)).mono ?_
    rintro e w' ⟨rfl, rfl⟩
    exact ⟨_, rfl, Kd.R_nil _ _ _ _ _, Below.refl _ _⟩
  · rw [if_neg hl] at h
    obtain ⟨r, hr, h⟩ := Option.bind_eq_some_iff.1 h
    obtain ⟨rfl, rfl⟩ : r = r1 ∧ 0 = r2 := by simpa using h
    refine (write_calls k A0 c0 l0 r w hr0 hc0 (by omega) hr).mono ?_
    rintro e w' ⟨v, rfl, ho, hb⟩
    exact ⟨v, rfl, Kd.R_of_own (enc := Value.int .u8) (h1 := fun _ => rfl) ho (fun _ _ => trivial), hb⟩
end Go.Proofs.Ytcdephhplmcmjaa.X
end

section
namespace Go.Proofs.Ytcdephhplmcmjaa.X
open Go.RowKit Go.Proofs.YtcdephhplmcmjaaW.PrintWords Go.Proofs.YtcdephhplmcmjaaW.PrintLast Go.Proofs.YtcdephhplmcmjaaW.PrintMore
attribute [local go_sem] max2_int min2_int max_two min_two max_three min_three max_four min_four
set_option linter.unusedVariables false
set_option linter.unusedSimpArgs false
def bytes_Equal.f (l0 : List Int) (l1 : List Int) : Option (Bool) := some ((strOfNums l0).toList == (strOfNums l1).toList)
set_option maxHeartbeats 8000000 in
set_option maxRecDepth 100000 in
theorem bytes_Equal.calls (A0 : Option Addr) (c0 : Nat) (l0 : List Int) (A1 : Option Addr) (c1 : Nat) (l1 : List Int) (r : Bool) (w : World) (hr0 : Kd.C (Kd.int .u8) w A0 l0.length l0) (hc0 : l0.length ≤ c0) (hr1 : Kd.C (Kd.int .u8) w A1 l1.length l1) (hc1 : l1.length ≤ c1) (h : bytes_Equal.f l0 l1 = some r) :
  Calls Try.prog 53 #[.slice A0 l0.length c0, .slice A1 l1.length c1] w fun e w' => e = .returned (.bool r) ∧ Drawn0 w w' := by
 have HR0 := Aside0.mk hr0
 have HC0 := Aside0.mk hc0
 clear hr0 hc0
 have HR1 := Aside0.mk hr1
 have HC1 := Aside0.mk hc1
 clear hr1 hc1
 have H : (some ((strOfNums l0).toList == (strOfNums l1).toList)) = some r := h
 clear h
 obtain rfl := Option.some.inj H
 have hcv3 := Kd.C_string (P := Try.prog) (A := A0) (c := c0) Try.underlying25 Try.underlying5 Try.underlying9 HR0.out
 have hcv4 := Kd.C_string (P := Try.prog) (A := A1) (c := c1) Try.underlying25 Try.underlying5 Try.underlying9 HR1.out
 go_enter Try.func53, Try.ntmps53
 go_wp2
 go_ret
 exact ⟨by first | rfl | (simp; done) | (simp [*]; done), by repeat (first | exact Drawn0.refl _ | apply Drawn0.step)⟩
end Go.Proofs.Ytcdephhplmcmjaa.X
end
