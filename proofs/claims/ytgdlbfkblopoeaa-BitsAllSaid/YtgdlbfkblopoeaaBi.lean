/- bits.Bits: the bits of bytes, gone over in order, for every loop body that keeps what lay ahead of the call. -/
import Derived.Test.YtgdlbfkblopoeaaHx
import Derived.Test.YtgdlbfkblopoeaaRi
import Derived.Shelf.Abstract
import Derived.Outline
namespace Go.Proofs.Ytgdlbfkblopoeaa.X
open Go.RowKit Go.Proofs.YtgdlbfkblopoeaaW.PrintWords Go.Proofs.YtgdlbfkblopoeaaW.PrintLast Go.Proofs.YtgdlbfkblopoeaaW.PrintMore Go.Shelf
attribute [local go_sem] Oper.semAt_some
set_option linter.unusedVariables false
set_option linter.unusedSimpArgs false

/-- Bit t of byte x, as the code tells it. -/
def bitv (x : Int) (t : Nat) : Int := wrap64 (bits .and .u8 (x / 2 ^ t) 1)
/-- The first m bits. -/
def allB (xs : List Int) (m : Nat) : List Int := (List.range m).map fun j => bitv (xs.getD (j / 8) 0) (j % 8)
theorem allB_succ (xs : List Int) (m : Nat) : allB xs (m + 1) = allB xs m ++ [bitv (xs.getD (m / 8) 0) (m % 8)] := by simp [allB, List.range_succ]
theorem allB_length (xs : List Int) (m : Nat) : (allB xs m).length = m := by simp [allB]

set_option maxRecDepth 100000 in
set_option maxHeartbeats 2000000 in
theorem bits1_in (F : Fence) (n : Nat) (hF : F.fn 36) (hro : F.round = none) (hn : 1 ≤ n) (l Bs n₀ c : Nat) (A : Option Addr) (xs : List Int) (w0 : World) (hC : Kd.C (Kd.int .u8) w0 A xs.length xs) (hlen : xs.length ≤ 1000000000000) (h0w : w0.heap.size = n₀) (J Jx : List Int → World → Prop)
    (hY : ∀ pre x W, J pre W → pre.length < 8 * xs.length → YieldAt F (n - 1) Try.prog l #[.int .i64 x] W fun e W' =>
      (e = .returned (.bool true) ∧ J (pre ++ [x]) W' ∧ Below n₀ W W') ∨ (e = .returned (.bool false) ∧ Jx (pre ++ [x]) W'))
    (W : World) (hW : Below n₀ w0 W) (hBs : W.cell? ⟨Bs, 0, none⟩ = some (.slice A xs.length c)) (h0 : J [] W) :
    CallsIn F n Try.prog 36 #[.func (.yield l) #[] #[], .pointer (some ⟨Bs, 0, none⟩)] W fun e W' => (∃ v, e = .returned v) ∧
      ((∃ ys, ys = allB xs (8 * xs.length) ∧ J ys W') ∨ (∃ pre, (∃ m, m ≤ 8 * xs.length ∧ pre = allB xs m) ∧ Jx pre W')) := by
  refine callsIn_of_wp Try.func36 rfl hF ?_ hro
  simp only [Try.ntmps36, List.size_toArray, List.length_cons, List.length_nil, Nat.reduceAdd, Nat.reduceSub, Array.replicate_succ, Array.replicate_zero, List.push_toArray, List.append_toArray, List.nil_append, List.cons_append]
  have HC := Aside0.mk hC
  have HY := Aside0.mk hY
  have h0w := Aside0.mk h0w
  clear hC hY
  gi_wp2
  gi_loopw [8] (fun v8 wr => ∃ i : Nat, v8 = .int .i64 i ∧ i ≤ xs.length ∧ Aside0 (J (allB xs (8 * i)) wr) ∧ Aside0 (Below n₀ w0 wr)) (fun v8 _ => xs.length - (intOf v8).toNat)
  case atStart => exact ⟨0, rfl, Nat.zero_le _, ⟨h0⟩, ⟨hW⟩⟩
  case round =>
    obtain ⟨i, rfl, hi, HJ, HB⟩ := hrel
    by_cases hlt : i < xs.length
    · obtain ⟨ad, rfl, hcell⟩ := c_at (Kd.C_below HC.out (by have := HB.out; rw [← h0w.out] at this; exact this)) (i : Int) (by omega) (by omega)
      have e : rd xs (i : Int) = xs.getD i 0 := rfl
      rw [e, show ((i : Int)).toNat = i from rfl] at hcell
      obtain ⟨x, hx⟩ : ∃ x, x = xs.getD i 0 := ⟨_, rfl⟩
      rw [← hx] at hcell
      have Hx := Aside0.mk hx
      clear e hx
      gi_wp2
      obtain ⟨wo, rfl⟩ : ∃ wo : World, wo = wr := ⟨_, rfl⟩
      gi_loopw [12] (fun v12 wr => ∃ t : Nat, v12 = .int .i64 t ∧ t ≤ 8 ∧ Aside0 (J (allB xs (8 * i + t)) wr) ∧ Aside0 (Below n₀ w0 wr)) (fun v12 _ => 8 - (intOf v12).toNat)
      case atStart => exact ⟨0, rfl, by omega, by simpa using HJ, HB⟩
      case round =>
        clear HJ HB hcell
        obtain ⟨t, rfl, ht, HJ, HB⟩ := hrel
        by_cases hlt8 : t < 8
        · obtain ⟨fn, tmps, assign, body, hy, hR⟩ := HY.out _ (bitv x t) wr HJ.out (by rw [allB_length]; omega)
          have hJ1 := Aside0.mk (show allB xs (8 * i + t) ++ [bitv x t] = allB xs (8 * i + (t + 1)) by rw [← Nat.add_assoc, allB_succ, Hx.out, show (8 * i + t) / 8 = i by omega, show (8 * i + t) % 8 = t by omega])
          have hml := Aside0.mk (show 8 * i + (t + 1) ≤ 8 * xs.length by omega)
          simp only [bitv] at hy
          clear HJ
          gi_wp2
          refine hR.mono ?_
          rintro e W3 (⟨rfl, hJ3, hk3⟩ | ⟨rfl, hJx3⟩)
          · rw [hJ1.out] at hJ3
            have HJ3 := Aside0.mk hJ3
            have HB3 := Aside0.mk (HB.out.trans hk3)
            clear hJ3 hk3
            gi_wp2
            go_roundw
            case rel => exact ⟨t + 1, by go_num, by omega, HJ3, HB3⟩
            case measure => simp [intOf]; omega
          · rw [hJ1.out] at hJx3
            have HJ3 := Aside0.mk hJx3
            clear hJx3
            gi_wp2
            refine bodyPost_ret (results_none rfl _ _ _) rfl ?_
            exact ⟨⟨_, rfl⟩, .inr ⟨_, ⟨8 * i + (t + 1), hml.out, rfl⟩, HJ3.out⟩⟩
        · obtain rfl : t = 8 := by omega
          gi_wp2
          go_roundw
          case rel => exact ⟨i + 1, by go_num, by omega, by rw [show 8 * (i + 1) = 8 * i + 8 by omega]; exact HJ, HB⟩
          case measure => simp [intOf]; omega
    · obtain rfl : i = xs.length := by omega
      gi_wp2
      go_end0
      exact ⟨⟨_, rfl⟩, .inl ⟨_, rfl, HJ.out⟩⟩
set_option maxHeartbeats 1000000 in
/-- The closure: the slice is boxed. -/
theorem bits_in (A : Option Addr) (c : Nat) (xs : List Int) (w : World) :
    Calls Try.prog 25 #[.slice A xs.length c] w fun e w' => e = .returned (.func (.func 36) #[] #[.pointer (some ⟨w.heap.size, 0, none⟩)]) ∧ w' = w.alloc (.cells #[.slice A xs.length c] 29) := by
  go_enter Try.func25, Try.ntmps25
  go_wp2
  go_ret
  exact ⟨rfl, rfl⟩
theorem bits_stops (F : Fence) (n : Nat) (hF : F.fn 36) (hro : F.round = none) (hn : 1 ≤ n) (Bs n₀ c : Nat) (A : Option Addr) (xs : List Int) (w0 w : World) (hC : Kd.C (Kd.int .u8) w0 A xs.length xs) (hlen : xs.length ≤ 1000000000000) (h0w : w0.heap.size = n₀) (hb : Below n₀ w0 w) (hBs : Bs < w.heap.size)
    (hc : w.cell? ⟨Bs, 0, none⟩ = some (.slice A xs.length c)) :
    SeqStopsK F n Try.prog 36 #[.pointer (some ⟨Bs, 0, none⟩)] (fun x : Int => #[Value.int .i64 x]) (Below n₀) (fun ys => ys = allB xs (8 * xs.length)) (fun pre => ∃ m, m ≤ 8 * xs.length ∧ pre = allB xs m) (8 * xs.length) w := fun l J Jx W hW _ _ hY h0 =>
  bits1_in F n hF hro hn l Bs n₀ c A xs w0 hC hlen h0w J Jx hY W (hb.trans (hW.mono (by have := hb.size; omega))) ((hW.cell (p := ⟨Bs, 0, none⟩) hBs).trans hc) h0
end Go.Proofs.Ytgdlbfkblopoeaa.X
