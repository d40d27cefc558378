/- DeltaMoved: texts of this seat in one (wip/merge.py): X42, Nx, Px, Ma, Mc, Md, Me, Mf, Mg, Ga, Gm, X43, Rd. -/
import Derived.Test.YtbncfhmfohpfbaaGDeltaMoved0
import Derived.Test.YtbncfhmfohpfbaaGDeltaMoved2
import Derived.Lib.BitFns
import Derived.Laws.MathBits
import Derived.Test.YtbncfhmfohpfbaaGDeltaMoved1
import Derived.Deep.RegionHeld3
import Derived.Deep.Slices
import Derived.Lib.SmallJoins
import Derived.SizedLaws
section
namespace Go.Proofs.Ytbncfhmfohpfbaa.X
open Go.RowKit Go.Proofs.YtbncfhmfohpfbaaW.PrintWords Go.Proofs.YtbncfhmfohpfbaaW.PrintLast Go.Proofs.YtbncfhmfohpfbaaW.PrintMore
attribute [local go_sem] max2_int min2_int max_two min_two max_three min_three max_four min_four
set_option linter.unusedVariables false
set_option linter.unusedSimpArgs false
def marquetrylaw13_head.l0 : Nat → List Int → Int → Int → Option (Int)
 | 0, _, _, _ => none
 | k + 1, x0, x3, x4 => if x4 < (x0.length : Int) then (if 0 ≤ x4 then (if (rd x0 x4) < 128 then (if (wrap64 (x3 + 1)) = 4 then (some (wrap64 (x4 + 1))) else (marquetrylaw13_head.l0 k x0 (wrap64 (x3 + 1)) (wrap64 (x4 + 1)))) else (if x3 = 4 then (some (wrap64 (x4 + 1))) else (marquetrylaw13_head.l0 k x0 x3 (wrap64 (x4 + 1))))) else (none)) else (some (x0.length : Int))
def marquetrylaw13_head.f (k : Nat) (l0 : List Int) : Option (Int) := marquetrylaw13_head.l0 k l0 0 0
theorem marquetrylaw13_head.mono_l : ∀ k, (∀ y0 y1 y2, LeO (marquetrylaw13_head.l0 k y0 y1 y2) (marquetrylaw13_head.l0 (k + 1) y0 y1 y2))
 | 0 => fun _ _ _ r h => by simp [marquetrylaw13_head.l0] at h
 | k + 1 => by
  have ih0 := marquetrylaw13_head.mono_l k
  ·intro y0 y1 y2
   unfold marquetrylaw13_head.l0
   repeat' first
   | (with_reducible exact ih0 _ _ _)
   | (with_reducible exact LeO.refl _)
   | (with_reducible exact LeO.none _)
   | (with_reducible refine LeO.ite ?_ ?_)
   | (with_reducible refine LeO.bind ?_ (fun _ => ?_))
   | exact ih0 _ _ _
   | exact LeO.none _
   | refine LeO.ite ?_ ?_
   | refine LeO.bind ?_ (fun _ => ?_)
theorem marquetrylaw13_head.mono : ∀ a0 k, LeO (marquetrylaw13_head.f k a0) (marquetrylaw13_head.f (k + 1) a0) := by
 intro a0 k
 have ih0 := marquetrylaw13_head.mono_l k
 unfold marquetrylaw13_head.f
 repeat' first
   | (with_reducible exact ih0 _ _ _)
   | (with_reducible exact LeO.refl _)
   | (with_reducible exact LeO.none _)
   | (with_reducible refine LeO.ite ?_ ?_)
   | (with_reducible refine LeO.bind ?_ (fun _ => ?_))
   | exact ih0 _ _ _
   | exact LeO.none _
   | refine LeO.ite ?_ ?_
   | refine LeO.bind ?_ (fun _ => ?_)
set_option maxHeartbeats 8000000 in
set_option maxRecDepth 100000 in
theorem marquetrylaw13_head.calls (k : Nat) (A0 : Option Addr) (c0 : Nat) (l0 : List Int) (r : Int) (w : World) (hr0 : Kd.C (Kd.int .u8) w A0 l0.length l0) (hc0 : l0.length ≤ c0) (h : marquetrylaw13_head.f k l0 = some r) :
  Calls Try.prog 28 #[.slice A0 l0.length c0] w fun e w' => e = .returned (.int .i64 r) ∧ Drawn0 w w' := by
 have HR0 := Aside0.mk hr0
 have HC0 := Aside0.mk hc0
 clear hr0 hc0
 have H : (marquetrylaw13_head.l0 k l0 0 0) = some r := h
 clear h
 have H' := Aside0.mk H
 clear H
 go_enter Try.func28, Try.ntmps28
 go_wp2
 go_loopg [3, 4] k (fun kq v3 v4 w' => ∃ (x3_1 : Int) (x4_1 : Int), v3 = .int .i64 x3_1 ∧ v4 = .int .i64 x4_1 ∧ Aside0 (marquetrylaw13_head.l0 kq l0 x3_1 x4_1 = some r) ∧ Aside0 (kq ≤ k) ∧ Drawn0 w w')
 case atStart => exact ⟨(0), (0), (by first | rfl | (simp; done) | (simp [*]; done)), (by first | rfl | (simp; done) | (simp [*]; done)), H', ⟨Nat.le_refl _⟩, by repeat (first | exact Drawn0.refl _ | apply Drawn0.step)⟩
 case round =>
  clear H'
  obtain ⟨x3_1, x4_1, rfl, rfl, HA, HK1, ⟨m1, rfl⟩⟩ := hrel
  cases gk with
  | zero => exact absurd HA.out (by simp [marquetrylaw13_head.l0])
  | succ k1 =>
   have H := HA.out
   clear HA
   simp only [marquetrylaw13_head.l0] at H
   by_cases c2 : x4_1 < (l0.length : Int)
   ·rw [if_pos c2] at H
    have c2b0 : decide (x4_1 < (l0.length : Int)) = true := decide_eq_true c2
    clear c2
    by_cases c3 : 0 ≤ x4_1
    ·rw [if_pos c3] at H
     have c3b0 : decide (0 ≤ x4_1) = true := decide_eq_true c3
     clear c3
     by_cases c4 : (rd l0 x4_1) < 128
     ·rw [if_pos c4] at H
      have c4b0 : decide ((rd l0 x4_1) < 128) = true := decide_eq_true c4
      clear c4
      by_cases c5 : (wrap64 (x3_1 + 1)) = 4
      ·rw [if_pos c5] at H
       have c5b0 : ((wrap64 (x3_1 + 1)) == 4) = true := beq_iff_eq.mpr c5
       have c5b1 : ((wrap64 (x3_1 + 1)) != 4) = false := bne_eq_false_iff_eq.mpr c5
       clear c5
       obtain rfl := Option.some.inj H
       have p439 : 0 ≤ (x4_1 : Int) := of_decide_eq_true (by first | (with_reducible assumption) | assumption)
       have q439 : x4_1 < (l0.length : Int) := of_decide_eq_true (by first | (with_reducible assumption) | assumption)
       obtain ⟨ad439, e439, hx439_0⟩ := Kd.at_int HR0.out x4_1 p439 q439
       cases e439
       replace p439 := eq_true p439
       replace q439 := eq_true q439
       go_wp2
       go_ret
       exact ⟨by first | rfl | (simp; done) | (simp [*]; done), by repeat (first | exact Drawn0.refl _ | apply Drawn0.step)⟩
      ·rw [if_neg c5] at H
       have c5b0 : ((wrap64 (x3_1 + 1)) == 4) = false := beq_eq_false_iff_ne.mpr c5
       have c5b1 : ((wrap64 (x3_1 + 1)) != 4) = true := bne_iff_ne.mpr c5
       have H' := Aside0.mk H
       clear H
       have p439 : 0 ≤ (x4_1 : Int) := of_decide_eq_true (by first | (with_reducible assumption) | assumption)
       have q439 : x4_1 < (l0.length : Int) := of_decide_eq_true (by first | (with_reducible assumption) | assumption)
       obtain ⟨ad439, e439, hx439_0⟩ := Kd.at_int HR0.out x4_1 p439 q439
       cases e439
       replace p439 := eq_true p439
       replace q439 := eq_true q439
       go_wp2
       go_roundg k1
       case measure => have := HK1.out; omega
       case rel => exact ⟨(wrap64 (x3_1 + 1)), (wrap64 (x4_1 + 1)), (by first | rfl | (simp; done) | (simp [*]; done)), (by first | rfl | (simp; done) | (simp [*]; done)), H', ⟨by have := HK1.out; omega⟩, by repeat (first | exact Drawn0.refl _ | apply Drawn0.step)⟩
     ·rw [if_neg c4] at H
      have c4b0 : decide ((rd l0 x4_1) < 128) = false := decide_eq_false c4
      clear c4
      by_cases c6 : x3_1 = 4
      ·rw [if_pos c6] at H
       have c6b0 : (x3_1 == 4) = true := beq_iff_eq.mpr c6
       have c6b1 : (x3_1 != 4) = false := bne_eq_false_iff_eq.mpr c6
       clear c6
       obtain rfl := Option.some.inj H
       have p439 : 0 ≤ (x4_1 : Int) := of_decide_eq_true (by first | (with_reducible assumption) | assumption)
       have q439 : x4_1 < (l0.length : Int) := of_decide_eq_true (by first | (with_reducible assumption) | assumption)
       obtain ⟨ad439, e439, hx439_0⟩ := Kd.at_int HR0.out x4_1 p439 q439
       cases e439
       replace p439 := eq_true p439
       replace q439 := eq_true q439
       go_wp2
       go_ret
       exact ⟨by first | rfl | (simp; done) | (simp [*]; done), by repeat (first | exact Drawn0.refl _ | apply Drawn0.step)⟩
      ·rw [if_neg c6] at H
       have c6b0 : (x3_1 == 4) = false := beq_eq_false_iff_ne.mpr c6
       have c6b1 : (x3_1 != 4) = true := bne_iff_ne.mpr c6
       have H' := Aside0.mk H
       clear H
       have p439 : 0 ≤ (x4_1 : Int) := of_decide_eq_true (by first | (with_reducible assumption) | assumption)
       have q439 : x4_1 < (l0.length : Int) := of_decide_eq_true (by first | (with_reducible assumption) | assumption)
       obtain ⟨ad439, e439, hx439_0⟩ := Kd.at_int HR0.out x4_1 p439 q439
       cases e439
       replace p439 := eq_true p439
       replace q439 := eq_true q439
       go_wp2
       go_roundg k1
       case measure => have := HK1.out; omega
       case rel => exact ⟨(x3_1), (wrap64 (x4_1 + 1)), (by first | rfl | (simp; done) | (simp [*]; done)), (by first | rfl | (simp; done) | (simp [*]; done)), H', ⟨by have := HK1.out; omega⟩, by repeat (first | exact Drawn0.refl _ | apply Drawn0.step)⟩
    ·rw [if_neg c3] at H
     exact absurd H (by simp)
   ·rw [if_neg c2] at H
    have c2b0 : decide (x4_1 < (l0.length : Int)) = false := decide_eq_false c2
    clear c2
    obtain rfl := Option.some.inj H
    go_wp2
    go_ret
    exact ⟨by first | rfl | (simp; done) | (simp [*]; done), by repeat (first | exact Drawn0.refl _ | apply Drawn0.step)⟩
end Go.Proofs.Ytbncfhmfohpfbaa.X
end

section
namespace Go.Proofs.Ytbncfhmfohpfbaa.Nx
open Go.RowKit Go.Proofs.Ytbncfhmfohpfbaa.Bx
theorem or_low_high (i : Nat) (x y : Int) (hx0 : 0 ≤ x) (hx : x < 2 ^ i) (hy0 : 0 ≤ y) (hy : y % 2 ^ i = 0) (hy1 : y < 18446744073709551616) (hx1 : x < 18446744073709551616) :
    bits .or .u64 x y = x + y := by
  have := bits_join .u64 64 (by decide) wraps_u64 i y x hy0 hy (by omega) hx0 hx (by omega)
  obtain ⟨a, rfl⟩ := Int.eq_ofNat_of_zero_le hx0
  obtain ⟨b, rfl⟩ := Int.eq_ofNat_of_zero_le hy0
  have c := (bits_nat .u64 64 (by decide) wraps_u64 a b (by omega) (by omega)).2
  have d := (bits_nat .u64 64 (by decide) wraps_u64 b a (by omega) (by omega)).2
  rw [Nat.or_comm] at c
  have : bits .or .u64 (a : Int) (b : Int) = bits .or .u64 (b : Int) (a : Int) := c.trans d.symm
  omega
end Go.Proofs.Ytbncfhmfohpfbaa.Nx
end

section
namespace Go.Proofs.Ytbncfhmfohpfbaa.Px
set_option linter.unusedVariables false
set_option linter.unusedSimpArgs false
open Go.RowKit Go.Proofs.Ytbncfhmfohpfbaa.Bx Go.Proofs.Ytbncfhmfohpfbaa.Nx
def bitsFrom (n : Int) : Nat → Nat → List Int
  | _, 0 => []
  | i, d + 1 => n / 2 ^ i % 2 :: bitsFrom n (i + 1) d
theorem bitsFrom_length (n : Int) : ∀ d i, (bitsFrom n i d).length = d
  | 0, _ => rfl
  | d + 1, i => by simp [bitsFrom, bitsFrom_length n d]
theorem bitsFrom_range (n : Int) : ∀ d i, ∀ b ∈ bitsFrom n i d, b = 0 ∨ b = 1
  | 0, _, b, h => by simp [bitsFrom] at h
  | d + 1, i, b, h => by
    simp only [bitsFrom, List.mem_cons] at h
    rcases h with rfl | h
    · omega
    · exact bitsFrom_range n d _ b h
def allBits (w : Nat) (l : List Int) : List Int := l.flatMap fun x => bitsFrom x 0 w
theorem allBits_cons (w : Nat) (x : Int) (l : List Int) : allBits w (x :: l) = bitsFrom x 0 w ++ allBits w l := by simp [allBits]
theorem allBits_length (w : Nat) : ∀ l, (allBits w l).length = l.length * w
  | [] => by simp [allBits]
  | x :: l => by rw [allBits_cons, List.length_append, bitsFrom_length, allBits_length w l, List.length_cons, Nat.add_mul]; omega
theorem allBits_range (w : Nat) (l : List Int) : ∀ b ∈ allBits w l, b = 0 ∨ b = 1 := by
  intro b h
  obtain ⟨x, _, hx⟩ := List.mem_flatMap.1 h
  exact bitsFrom_range x w 0 b hx
def byteAt (B : List Int) (j : Nat) : Int :=
  B.getD (8 * j) 0 + 2 * B.getD (8 * j + 1) 0 + 4 * B.getD (8 * j + 2) 0 + 8 * B.getD (8 * j + 3) 0 + 16 * B.getD (8 * j + 4) 0 + 32 * B.getD (8 * j + 5) 0 + 64 * B.getD (8 * j + 6) 0 + 128 * B.getD (8 * j + 7) 0
def packB (B : List Int) : List Int := (List.range ((B.length + 7) / 8)).map (byteAt B)
theorem packB_length (B : List Int) : (packB B).length = (B.length + 7) / 8 := by simp [packB]
theorem getD_snoc (B : List Int) (b : Int) (m : Nat) : (B ++ [b]).getD m 0 = if m = B.length then b else B.getD m 0 := by
  simp only [List.getD_eq_getElem?_getD]
  by_cases h : m = B.length
  · subst h; simp
  · rw [if_neg h]
    rcases Nat.lt_or_ge m B.length with h1 | h1
    · rw [List.getElem?_append_left h1]
    · rw [List.getElem?_append_right h1, List.getElem?_eq_none (by simp; omega), List.getElem?_eq_none h1]
theorem getD_out (B : List Int) {m : Nat} (h : B.length ≤ m) : B.getD m 0 = 0 := by
  rw [List.getD_eq_getElem?_getD, List.getElem?_eq_none h]; rfl
theorem getD_bit {B : List Int} (hB : ∀ b ∈ B, b = 0 ∨ b = 1) (m : Nat) : B.getD m 0 = 0 ∨ B.getD m 0 = 1 := by
  rw [List.getD_eq_getElem?_getD]
  by_cases h : m < B.length
  · rw [List.getElem?_eq_getElem h]; exact hB _ (List.getElem_mem h)
  · rw [List.getElem?_eq_none (by omega)]; exact .inl rfl
theorem byteAt_snoc (B : List Int) (b : Int) (j : Nat) : byteAt (B ++ [b]) j = byteAt B j + if j = B.length / 8 then b * 2 ^ (B.length % 8) else 0 := by
  unfold byteAt
  simp only [getD_snoc]
  by_cases h : j = B.length / 8
  · rw [if_pos h]
    have q : ∀ t, (8 * j + t = B.length) = (t = B.length % 8) := fun t => propext (by omega)
    have q0 : (8 * j = B.length) = (0 = B.length % 8) := propext (by omega)
    have o := fun m => getD_out B (m := m)
    have o0 := o (8 * j); have o1 := o (8 * j + 1); have o2 := o (8 * j + 2); have o3 := o (8 * j + 3); have o4 := o (8 * j + 4); have o5 := o (8 * j + 5); have o6 := o (8 * j + 6); have o7 := o (8 * j + 7)
    have hr : B.length % 8 = 0 ∨ B.length % 8 = 1 ∨ B.length % 8 = 2 ∨ B.length % 8 = 3 ∨ B.length % 8 = 4 ∨ B.length % 8 = 5 ∨ B.length % 8 = 6 ∨ B.length % 8 = 7 := by omega
    simp only [q, q0]
    rcases hr with e | e | e | e | e | e | e | e <;> rw [e] <;> simp (config := { decide := true }) only [if_true, if_false, Int.reducePow, Int.pow_zero] <;> omega
  · rw [if_neg h]
    have : ∀ t, t < 8 → 8 * j + t ≠ B.length := by omega
    rw [if_neg (by simpa using this 0 (by omega)), if_neg (this 1 (by omega)), if_neg (this 2 (by omega)), if_neg (this 3 (by omega)), if_neg (this 4 (by omega)), if_neg (this 5 (by omega)), if_neg (this 6 (by omega)), if_neg (this 7 (by omega))]
    omega
theorem byteAt_range {B : List Int} (hB : ∀ b ∈ B, b = 0 ∨ b = 1) (j : Nat) : 0 ≤ byteAt B j ∧ byteAt B j ≤ 255 := by
  unfold byteAt
  have g := getD_bit hB
  have g0 := g (8 * j); have g1 := g (8 * j + 1); have g2 := g (8 * j + 2); have g3 := g (8 * j + 3); have g4 := g (8 * j + 4); have g5 := g (8 * j + 5); have g6 := g (8 * j + 6); have g7 := g (8 * j + 7)
  omega
theorem byteAt_last {B : List Int} (hB : ∀ b ∈ B, b = 0 ∨ b = 1) : byteAt B (B.length / 8) < 2 ^ (B.length % 8) := by
  unfold byteAt
  have g := getD_bit hB
  have o := fun m => getD_out B (m := m)
  generalize hj : B.length / 8 = j
  have g0 := g (8 * j); have g1 := g (8 * j + 1); have g2 := g (8 * j + 2); have g3 := g (8 * j + 3); have g4 := g (8 * j + 4); have g5 := g (8 * j + 5); have g6 := g (8 * j + 6); have g7 := g (8 * j + 7)
  have o0 := o (8 * j); have o1 := o (8 * j + 1); have o2 := o (8 * j + 2); have o3 := o (8 * j + 3); have o4 := o (8 * j + 4); have o5 := o (8 * j + 5); have o6 := o (8 * j + 6); have o7 := o (8 * j + 7)
  have hr : B.length % 8 = 0 ∨ B.length % 8 = 1 ∨ B.length % 8 = 2 ∨ B.length % 8 = 3 ∨ B.length % 8 = 4 ∨ B.length % 8 = 5 ∨ B.length % 8 = 6 ∨ B.length % 8 = 7 := by omega
  rcases hr with e | e | e | e | e | e | e | e <;> rw [e] <;> simp only [Int.reducePow, Int.pow_zero] <;> omega
theorem packB_range {B : List Int} (hB : ∀ b ∈ B, b = 0 ∨ b = 1) : ∀ x ∈ packB B, 0 ≤ x ∧ x ≤ 255 := by
  intro x hx
  obtain ⟨j, _, rfl⟩ := List.mem_map.1 hx
  exact byteAt_range hB j
theorem map_set (B : List Int) (b : Int) (n : Nat) (h : B.length / 8 < n) :
    ((List.range n).map (byteAt B)).set (B.length / 8) (byteAt B (B.length / 8) + b * 2 ^ (B.length % 8)) = (List.range n).map (byteAt (B ++ [b])) := by
  apply List.ext_getElem?
  intro j
  rw [List.getElem?_set]
  by_cases e : B.length / 8 = j
  · subst e
    simp [h, byteAt_snoc]
  · rw [if_neg e]
    simp only [List.getElem?_map]
    rcases Nat.lt_or_ge j n with hj | hj
    · rw [List.getElem?_range hj]
      simp only [Option.map_some, byteAt_snoc]; rw [if_neg (fun h : j = B.length / 8 => e h.symm)]; simp
    · rw [List.getElem?_eq_none (by simpa using hj)]; rfl
theorem packB_zero (n : Nat) : (List.range n).map (byteAt []) = List.replicate n 0 := by
  apply List.ext_getElem?
  intro j
  simp only [List.getElem?_map]
  rcases Nat.lt_or_ge j n with hj | hj
  · rw [List.getElem?_range hj]; simp [hj, byteAt]
  · rw [List.getElem?_eq_none (by simpa using hj)]; simp [hj]
end Go.Proofs.Ytbncfhmfohpfbaa.Px
end

section
namespace Go.Proofs.Ytbncfhmfohpfbaa.D13
set_option linter.unusedVariables false
set_option linter.unusedSimpArgs false
open Go.RowKit Go.Proofs.Ytbncfhmfohpfbaa.X Go.Proofs.YtbncfhmfohpfbaaW.PrintWords Go.Proofs.YtbncfhmfohpfbaaW.PrintLast Go.Proofs.YtbncfhmfohpfbaaW.PrintMore Go.Proofs.Ytbncfhmfohpfbaa.Bx Go.Proofs.Ytbncfhmfohpfbaa.Nx
def vb (n : Nat) : List Int := if n < 128 then [(n : Int)] else ((n % 128 + 128 : Nat) : Int) :: vb (n / 128)
termination_by n
decreasing_by omega
theorem vb_small {n : Nat} (h : n < 128) : vb n = [(n : Int)] := by rw [vb, if_pos h]
theorem vb_big {n : Nat} (h : 128 ≤ n) : vb n = ((n % 128 + 128 : Nat) : Int) :: vb (n / 128) := by rw [vb, if_neg (by omega)]
theorem vb_length : ∀ (d : Nat) (n : Nat), n < 128 ^ (d + 1) → 1 ≤ (vb n).length ∧ (vb n).length ≤ d + 1
  | 0, n, h => by rw [vb_small (by simpa using h)]; simp
  | d + 1, n, h => by
    by_cases c : n < 128
    · rw [vb_small c]; simp
    · rw [vb_big (by omega)]
      have := vb_length d (n / 128) (by rw [Nat.pow_succ] at h; omega)
      simp; omega
theorem vb_length64 {n : Nat} (h : n < 18446744073709551616) : 1 ≤ (vb n).length ∧ (vb n).length ≤ 10 := vb_length 9 n (by omega)
theorem vb_range : ∀ (n : Nat), ∀ x ∈ vb n, 0 ≤ x ∧ x ≤ 255 := by
  intro n
  induction n using Nat.strongRecOn with
  | _ n ih =>
    intro x hx
    by_cases c : n < 128
    · rw [vb_small c] at hx; simp at hx; omega
    · rw [vb_big (by omega), List.mem_cons] at hx
      rcases hx with rfl | hx
      · omega
      · exact ih (n / 128) (by omega) x hx
set_option maxRecDepth 10000 in
theorem or_128_u8 {y : Int} (h0 : 0 ≤ y) (h1 : y ≤ 255) : bits .or .u8 y 128 = y % 128 + 128 := by
  obtain ⟨a, rfl⟩ := Int.eq_ofNat_of_zero_le h0
  have e := (bits_nat .u8 8 (by decide) wraps_u8 a 128 (by omega) (by decide)).2
  have e2 : ((128 : Nat) : Int) = 128 := rfl
  rw [e2] at e
  have k : ∀ b : Fin 256, b.val ||| 128 = b.val % 128 + 128 := by decide
  have := k ⟨a, by omega⟩
  simp only [] at this
  rw [e, this]; omega
theorem number_l : ∀ (k : Nat) (acc : List Int) (x : Int), 0 ≤ x → x ≤ 18446744073709551615 → acc.length + (vb x.toNat).length < 140737488355328 → (vb x.toNat).length ≤ k → delta_number.l0 k acc x = some (acc ++ vb x.toNat)
  | 0, acc, x, _, _, _, h => by
    exfalso
    by_cases c : x.toNat < 128
    · rw [vb_small c] at h; simp at h
    · rw [vb_big (by omega)] at h; simp at h
  | k + 1, acc, x, h0, h1, h2, h => by
    rw [delta_number.l0, or_128_u8 (by omega) (by omega)]
    by_cases c : x ≥ 128
    · have e := vb_big (n := x.toNat) (by omega)
      rw [e, List.length_cons] at h h2
      rw [if_pos c, if_pos (by omega), e]
      have q : (x / 128).toNat = x.toNat / 128 := by omega
      rw [number_l k _ (x / 128) (by omega) (by omega) (by rw [q]; simp; omega) (by rw [q]; omega), q]
      have r : x % 256 % 128 + 128 = ((x.toNat % 128 + 128 : Nat) : Int) := by omega
      rw [r]; simp
    · have e := vb_small (n := x.toNat) (by omega)
      rw [e, List.length_singleton] at h2
      rw [if_neg c, if_pos (by omega), e, show x % 256 = ((x.toNat : Nat) : Int) by omega]
theorem number {k : Nat} {acc : List Int} {x : Int} (hk : 10 ≤ k) (ha : acc.length ≤ 100000000000) (h0 : 0 ≤ x) (h1 : x ≤ 18446744073709551615) : delta_number.f k acc x = some (acc ++ vb x.toNat) := by
  have := vb_length64 (n := x.toNat) (by omega)
  exact number_l k acc x h0 h1 (by omega) (by omega)
def zz (y : Int) : Int := if 0 ≤ y then 2 * y else -2 * y - 1
theorem zz_range {y : Int} (h : -9223372036854775808 ≤ y) (h' : y ≤ 9223372036854775807) : 0 ≤ zz y ∧ zz y ≤ 18446744073709551615 := by unfold zz; split <;> omega
theorem signed {k : Nat} {acc : List Int} {y : Int} (hk : 10 ≤ k) (ha : acc.length ≤ 100000000000) (h : -9223372036854775808 ≤ y) (h' : y ≤ 9223372036854775807) : delta_signed.f k acc y = some (acc ++ vb (zz y).toNat) := by
  unfold delta_signed.f
  have e : bits .xor .u64 (IntKind.u64.wrap (IntKind.u64.wrap y * 2)) (IntKind.u64.wrap (y / 9223372036854775808)) = zz y := by
    unfold zz
    by_cases c : 0 ≤ y
    · rw [if_pos c, show y / 9223372036854775808 = 0 by omega, show IntKind.u64.wrap 0 = 0 by rfl, xor_zero_u64, u64w, u64w]
      omega
    · rw [if_neg c, show y / 9223372036854775808 = -1 by omega, show IntKind.u64.wrap (-1) = 18446744073709551615 by rfl, xor_ones_u64, u64w, u64w]
      omega
  rw [e, number hk ha (zz_range h h').1 (zz_range h h').2]; rfl
theorem and_127_u8 (x : Int) (h0 : 0 ≤ x) (h1 : x ≤ 255) : bits .and .u8 x 127 = x % 128 := bits_mask .u8 8 (by decide) wraps_u8 7 (by decide) x h0 (by omega)
theorem numN_eq {n x : Int} {j : Nat} (h0 : 0 ≤ n) (h1 : n < 2 ^ (7 * j)) (x0 : 0 ≤ x) (x1 : x ≤ 255) (hb : (x % 128) * 2 ^ (7 * j) < 18446744073709551616) (h2 : n < 18446744073709551616) :
    numN n x (7 * j) = n + (x % 128) * 2 ^ (7 * j) := by
  unfold numN
  rw [and_127_u8 x x0 x1, u64w, u64w, Int.emod_eq_of_lt (by omega) (by omega : x % 128 < 18446744073709551616)]
  have hp : (0 : Int) < 2 ^ (7 * j) := Int.pow_pos (by decide)
  have hm : 0 ≤ (x % 128) * 2 ^ (7 * j) := Int.mul_nonneg (by omega) (by omega)
  rw [Int.emod_eq_of_lt hm hb]
  exact or_low_high (7 * j) _ _ h0 h1 hm (Int.mul_emod_left _ _) hb h2
theorem numS_vb : ∀ (d : Nat) (n : Nat) (tl : List Int) (j : Nat) (acc : Int), (vb n).length ≤ d → 0 ≤ acc → acc < 2 ^ (7 * j) → acc + n * 2 ^ (7 * j) < 18446744073709551616 → (0 < j → 0 < n) → j ≤ 9 →
    numS (7 * j) acc (vb n ++ tl) = .ok (acc + n * 2 ^ (7 * j), tl)
  | 0, n, tl, j, acc, h, _, _, _, _, _ => by
    exfalso
    by_cases c : n < 128
    · rw [vb_small c] at h; simp at h
    · rw [vb_big (by omega)] at h; simp at h
  | d + 1, n, tl, j, acc, h, ha, ha1, hn, hj, hj9 => by
    have hP : (0 : Int) < 2 ^ (7 * j) := Int.pow_pos (by decide)
    by_cases c : n < 128
    · rw [vb_small c, List.singleton_append, numS]
      have h9 : 7 * j < 63 ∨ (n : Int) < 2 := by
        rcases Nat.lt_or_ge j 9 with q | q
        · exact .inl (by omega)
        · right
          have : j = 9 := by omega
          subst this
          have : (2 : Int) ^ (7 * 9) = 9223372036854775808 := by decide
          omega
      rw [if_pos ⟨h9, by rcases Nat.eq_zero_or_pos j with q | q; exact .inl (by omega); exact .inr (by have := hj q; omega)⟩, if_pos (by omega)]
      rw [numN_eq ha ha1 (by omega) (by omega) (by rw [show (n : Int) % 128 = n by omega]; omega) (by have : 0 ≤ (n : Int) * 2 ^ (7 * j) := Int.mul_nonneg (by omega) (by omega); omega)]
      rw [show (n : Int) % 128 = n by omega]
    · rw [vb_big (by omega), List.cons_append, numS]
      rw [vb_big (by omega), List.length_cons] at h
      have hj9' : j < 9 := by
        rcases Nat.lt_or_ge j 9 with q | q
        · exact q
        · exfalso
          have : j = 9 := by omega
          subst this
          have : (2 : Int) ^ (7 * 9) = 9223372036854775808 := by decide
          omega
      rw [if_pos ⟨.inl (by omega), .inr (by omega)⟩, if_neg (by omega)]
      have hq : (2 : Int) ^ (7 * (j + 1)) = 128 * 2 ^ (7 * j) := by rw [show 7 * (j + 1) = 7 * j + 7 by omega, Int.pow_add]; rw [Int.mul_comm]; rfl
      generalize hPP : (2 : Int) ^ (7 * j) = P at *
      have hsum : (n : Int) * P = ((n % 128 : Nat) : Int) * P + ((n / 128 : Nat) : Int) * (128 * P) := by
        have : (n : Int) = ((n % 128 : Nat) : Int) + ((n / 128 : Nat) : Int) * 128 := by omega
        conv => lhs; rw [this]
        rw [Int.add_mul, Int.mul_assoc]
      have h1 : 0 ≤ ((n / 128 : Nat) : Int) * (128 * P) := Int.mul_nonneg (by omega) (by omega)
      have h2 : 0 ≤ ((n % 128 : Nat) : Int) * P := Int.mul_nonneg (by omega) (by omega)
      have h3 : ((n % 128 : Nat) : Int) * P ≤ 127 * P := Int.mul_le_mul_of_nonneg_right (by omega) (by omega)
      rw [numN_eq (j := j) ha (by rw [hPP]; exact ha1) (by omega) (by omega) (by rw [hPP, show (((n % 128 + 128 : Nat) : Int)) % 128 = ((n % 128 : Nat) : Int) by omega]; omega) (by omega), hPP,
        show (((n % 128 + 128 : Nat) : Int)) % 128 = ((n % 128 : Nat) : Int) by omega]
      have := numS_vb d (n / 128) tl (j + 1) (acc + ((n % 128 : Nat) : Int) * P) (by omega) (by omega) (by rw [hq]; omega) (by rw [hq]; omega) (by intro _; omega) (by omega)
      rw [show 7 * j + 7 = 7 * (j + 1) by omega, this, hq]
      congr 2
      omega
theorem numS_back {n : Nat} (h : n < 18446744073709551616) (tl : List Int) : numS 0 0 (vb n ++ tl) = .ok ((n : Int), tl) := by
  have := numS_vb 10 n tl 0 0 (vb_length64 h).2 (by omega) (by simp) (by simp; omega) (by omega) (by omega)
  simpa using this
theorem sgnV_eq {a : Int} (h : 0 ≤ a) (h' : a ≤ 18446744073709551615) : sgnV a = if a % 2 = 0 then a / 2 else - (a / 2) - 1 := by
  unfold sgnV
  rw [and_one_u64 a h h']
  by_cases c : a % 2 = 0
  · rw [if_pos c, c, show wrap64 (-(wrap64 0)) = 0 by simp [wrap64], xor_zero_i64]
    unfold wrap64; omega
  · rw [if_neg c, show a % 2 = 1 by omega, show wrap64 (-(wrap64 1)) = -1 by simp [wrap64], xor_ones_i64]
    unfold wrap64; omega
theorem sgnV_zz {y : Int} (h : -9223372036854775808 ≤ y) (h' : y ≤ 9223372036854775807) : sgnV (zz y) = y := by
  rw [sgnV_eq (zz_range h h').1 (zz_range h h').2]
  unfold zz
  split <;> split <;> omega
theorem signed_back {y : Int} (h : -9223372036854775808 ≤ y) (h' : y ≤ 9223372036854775807) (tl : List Int) : mapS sgnV (numS 0 0 (vb (zz y).toNat ++ tl)) = .ok (y, tl) := by
  have hz := zz_range h h'
  rw [numS_back (by omega)]
  show Except.ok (sgnV (((zz y).toNat : Nat) : Int), tl) = _
  rw [show (((zz y).toNat : Nat) : Int) = zz y by omega, sgnV_zz h h']
structure Good {α : Type} (P : List Int → Except Int (α × List Int)) : Prop where
  took : ∀ b v r, P b = .ok (v, r) → ∃ c, b = c ++ r ∧ (∀ r', P (c ++ r') = .ok (v, r')) ∧ ∀ p s, c = p ++ s → s ≠ [] → P p = .error 6
theorem Good.ok {α : Type} (v : α) : Good fun b => .ok (v, b) := ⟨fun b v' r h => by
  obtain ⟨rfl, rfl⟩ : v = v' ∧ b = r := by simpa using h
  exact ⟨[], rfl, fun _ => rfl, fun p s h hs => by simp at h; exact absurd h.2 hs⟩⟩
theorem Good.err {α : Type} (x : Int) : Good fun _ => (.error x : Except Int (α × List Int)) := ⟨fun _ _ _ h => by cases h⟩
theorem Good.ite {α : Type} {c : Prop} [Decidable c] {P Q : List Int → Except Int (α × List Int)} (hp : Good P) (hq : Good Q) : Good fun b => if c then P b else Q b := by
  by_cases h : c
  · simp only [if_pos h]; exact hp
  · simp only [if_neg h]; exact hq
theorem Good.and {α β : Type} {P : List Int → Except Int (α × List Int)} {Q : α → List Int → Except Int (β × List Int)} (hp : Good P) (hq : ∀ v, Good (Q v)) : Good fun b => andS (P b) (Q · ·) := by
  refine ⟨fun b v r h => ?_⟩
  cases h1 : P b with
  | error x => simp only [h1, andS_err] at h; cases h
  | ok p =>
    obtain ⟨v1, r1⟩ := p
    simp only [h1, andS_ok] at h
    obtain ⟨c1, rfl, a1, b1⟩ := hp.took _ _ _ h1
    obtain ⟨c2, rfl, a2, b2⟩ := (hq v1).took _ _ _ h
    refine ⟨c1 ++ c2, by simp, fun r' => ?_, fun p s he hs => ?_⟩
    · simp only [List.append_assoc, a1, andS_ok, a2]
    · rcases List.append_eq_append_iff.1 he with ⟨a', rfl, ha⟩ | ⟨c', rfl, hc⟩
      · simp only [a1, andS_ok]
        exact b2 a' s ha hs
      · by_cases hc0 : c' = []
        · subst hc0
          simp only [List.append_nil] at a1 b1 ⊢
          have hp0 := a1 []
          rw [List.append_nil] at hp0
          simp only [hp0, andS_ok]
          exact b2 [] s (by simpa using hc.symm) hs
        · simp only [b1 p c' rfl hc0, andS_err]
theorem Good.map {α β : Type} {P : List Int → Except Int (α × List Int)} (f : α → β) (hp : Good P) : Good fun b => mapS f (P b) := by
  have := Good.and hp (fun v => Good.ok (f v))
  refine ⟨fun b v r h => ?_⟩
  have e : ∀ b, mapS f (P b) = andS (P b) fun v b => .ok (f v, b) := fun b => by cases P b <;> rfl
  simp only [e] at h ⊢
  exact this.took b v r h
end Go.Proofs.Ytbncfhmfohpfbaa.D13
end

section
namespace Go.Proofs.Ytbncfhmfohpfbaa.D13
set_option linter.unusedVariables false
set_option linter.unusedSimpArgs false
open Go.RowKit Go.Proofs.Ytbncfhmfohpfbaa.X Go.Proofs.YtbncfhmfohpfbaaW.PrintWords Go.Proofs.YtbncfhmfohpfbaaW.PrintLast Go.Proofs.YtbncfhmfohpfbaaW.PrintMore Go.Proofs.Ytbncfhmfohpfbaa.Bx Go.Proofs.Ytbncfhmfohpfbaa.Nx Go.Proofs.Ytbncfhmfohpfbaa.Px
def bt (l : List Int) (i : Nat) : Int := l.getD (i / 8) 0 / 2 ^ (i % 8) % 2
theorem bt_range (l : List Int) (i : Nat) : bt l i = 0 ∨ bt l i = 1 := by unfold bt; omega
def valF (g : Nat → Int) : Nat → Nat → Int
  | _, 0 => 0
  | P, d + 1 => g P + 2 * valF g (P + 1) d
theorem valF_snoc (g : Nat → Int) : ∀ (d P : Nat), valF g P (d + 1) = valF g P d + g (P + d) * 2 ^ d
  | 0, P => by simp [valF]
  | d + 1, P => by
    rw [valF, valF_snoc g d (P + 1), valF, Int.pow_succ, show P + 1 + d = P + (d + 1) by omega, Int.mul_add, Int.add_assoc, ← Int.mul_assoc, Int.mul_comm (2 ^ d) 2, ← Int.mul_assoc, Int.mul_comm 2 (g (P + (d + 1)))]
theorem valF_range {g : Nat → Int} (hg : ∀ i, g i = 0 ∨ g i = 1) : ∀ (d P : Nat), 0 ≤ valF g P d ∧ valF g P d < 2 ^ d
  | 0, P => by simp [valF]
  | d + 1, P => by
    have := valF_range hg d (P + 1)
    have h2 := hg P
    rw [valF, Int.pow_succ]
    omega
theorem getD_u8 {l : List Int} (hl : ∀ x ∈ l, 0 ≤ x ∧ x ≤ 255) (j : Nat) : 0 ≤ l.getD j 0 ∧ l.getD j 0 ≤ 255 := by
  rw [List.getD_eq_getElem?_getD]
  by_cases h : j < l.length
  · rw [List.getElem?_eq_getElem h]; exact hl _ (List.getElem_mem h)
  · rw [List.getElem?_eq_none (by omega)]; simp
theorem shr_range {x : Int} {t : Nat} (h : 0 ≤ x ∧ x ≤ 255) : 0 ≤ x / 2 ^ t ∧ x / 2 ^ t ≤ 255 := by
  have hp : (0 : Int) < 2 ^ t := Int.pow_pos (by decide)
  have := Int.ediv_le_self (2 ^ t) h.1
  exact ⟨Int.ediv_nonneg h.1 (Int.le_of_lt hp), by omega⟩
theorem and_one_u8 (x : Int) (h0 : 0 ≤ x) (h1 : x ≤ 255) : bits .and .u8 x 1 = x % 2 := by
  obtain ⟨a, rfl⟩ := Int.eq_ofNat_of_zero_le h0
  have e := (bits_nat .u8 8 (by decide) wraps_u8 a 1 (by omega) (by decide)).1
  have e2 : ((1 : Nat) : Int) = 1 := rfl
  rw [e2] at e
  rw [e, Nat.and_one_is_mod]; omega
theorem valF_digits (g : Nat → Int) (X : Nat) : ∀ (d P c : Nat), (∀ t, t < d → g (P + t) = ((X / 2 ^ (c + t) % 2 : Nat) : Int)) → valF g P d = ((X / 2 ^ c % 2 ^ d : Nat) : Int)
  | 0, P, c, h => by simp [valF, Nat.mod_one]
  | d + 1, P, c, h => by
    have h0 := h 0 (by omega)
    rw [Nat.add_zero, Nat.add_zero] at h0
    have ih := valF_digits g X d (P + 1) (c + 1) (fun t ht => by
      have := h (t + 1) (by omega)
      rwa [show P + (t + 1) = P + 1 + t by omega, show c + (t + 1) = c + 1 + t by omega] at this)
    have e : X / 2 ^ c / 2 = X / 2 ^ (c + 1) := by rw [Nat.div_div_eq_div_mul, Nat.pow_succ]
    have e2 : X / 2 ^ c % 2 ^ (d + 1) = X / 2 ^ c % 2 + 2 * (X / 2 ^ (c + 1) % 2 ^ d) := by rw [Nat.pow_succ 2 d, Nat.mul_comm (2 ^ d) 2, Nat.mod_mul, e]
    rw [valF, ih, h0, e2]
    generalize X / 2 ^ c % 2 = u
    generalize X / 2 ^ (c + 1) % 2 ^ d = v
    omega
theorem bitsFrom_get (n : Int) : ∀ (d i c : Nat), c < d → (bitsFrom n i d).getD c 0 = n / 2 ^ (i + c) % 2
  | 0, _, c, h => absurd h (by omega)
  | d + 1, i, 0, h => by simp [bitsFrom]
  | d + 1, i, c + 1, h => by
    have := bitsFrom_get n d (i + 1) c (by omega)
    rw [show i + 1 + c = i + (c + 1) by omega] at this
    rw [bitsFrom, ← this]; simp
theorem allBits_get (W : Nat) : ∀ (l : List Int) (i c : Nat), i < l.length → c < W → (allBits W l).getD (i * W + c) 0 = l.getD i 0 / 2 ^ c % 2
  | [], i, c, h, _ => absurd h (by simp)
  | x :: l, 0, c, h, hc => by
    rw [allBits_cons, List.getD_eq_getElem?_getD, List.getElem?_append_left (by rw [bitsFrom_length]; omega), ← List.getD_eq_getElem?_getD, Nat.zero_mul, Nat.zero_add, bitsFrom_get x W 0 c hc, Nat.zero_add]; rfl
  | x :: l, i + 1, c, h, hc => by
    have := allBits_get W l i c (by simpa using h) hc
    rw [allBits_cons, List.getD_eq_getElem?_getD, List.getElem?_append_right (by rw [bitsFrom_length, Nat.add_mul]; omega), ← List.getD_eq_getElem?_getD, bitsFrom_length, show (i + 1) * W + c - W = i * W + c by rw [Nat.add_mul]; omega, this]; simp
theorem eight_bits {x0 x1 x2 x3 x4 x5 x6 x7 : Int} (h0 : x0 = 0 ∨ x0 = 1) (h1 : x1 = 0 ∨ x1 = 1) (h2 : x2 = 0 ∨ x2 = 1) (h3 : x3 = 0 ∨ x3 = 1) (h4 : x4 = 0 ∨ x4 = 1) (h5 : x5 = 0 ∨ x5 = 1) (h6 : x6 = 0 ∨ x6 = 1) (h7 : x7 = 0 ∨ x7 = 1) :
    (x0 + 2 * x1 + 4 * x2 + 8 * x3 + 16 * x4 + 32 * x5 + 64 * x6 + 128 * x7) / 1 % 2 = x0 ∧ (x0 + 2 * x1 + 4 * x2 + 8 * x3 + 16 * x4 + 32 * x5 + 64 * x6 + 128 * x7) / 2 % 2 = x1 ∧ (x0 + 2 * x1 + 4 * x2 + 8 * x3 + 16 * x4 + 32 * x5 + 64 * x6 + 128 * x7) / 4 % 2 = x2 ∧ (x0 + 2 * x1 + 4 * x2 + 8 * x3 + 16 * x4 + 32 * x5 + 64 * x6 + 128 * x7) / 8 % 2 = x3 ∧
    (x0 + 2 * x1 + 4 * x2 + 8 * x3 + 16 * x4 + 32 * x5 + 64 * x6 + 128 * x7) / 16 % 2 = x4 ∧ (x0 + 2 * x1 + 4 * x2 + 8 * x3 + 16 * x4 + 32 * x5 + 64 * x6 + 128 * x7) / 32 % 2 = x5 ∧ (x0 + 2 * x1 + 4 * x2 + 8 * x3 + 16 * x4 + 32 * x5 + 64 * x6 + 128 * x7) / 64 % 2 = x6 ∧ (x0 + 2 * x1 + 4 * x2 + 8 * x3 + 16 * x4 + 32 * x5 + 64 * x6 + 128 * x7) / 128 % 2 = x7 := by
  have a0 : 0 ≤ x0 ∧ x0 ≤ 1 := by omega
  have a1 : 0 ≤ x1 ∧ x1 ≤ 1 := by omega
  have a2 : 0 ≤ x2 ∧ x2 ≤ 1 := by omega
  have a3 : 0 ≤ x3 ∧ x3 ≤ 1 := by omega
  have a4 : 0 ≤ x4 ∧ x4 ≤ 1 := by omega
  have a5 : 0 ≤ x5 ∧ x5 ≤ 1 := by omega
  have a6 : 0 ≤ x6 ∧ x6 ≤ 1 := by omega
  have a7 : 0 ≤ x7 ∧ x7 ≤ 1 := by omega
  clear h0 h1 h2 h3 h4 h5 h6 h7
  refine ⟨by omega, by omega, by omega, by omega, by omega, by omega, by omega, by omega⟩
theorem byteAt_bit {B : List Int} (hB : ∀ b ∈ B, b = 0 ∨ b = 1) (j t : Nat) (ht : t < 8) : byteAt B j / 2 ^ t % 2 = B.getD (8 * j + t) 0 := by
  have h := eight_bits (getD_bit hB (8 * j)) (getD_bit hB (8 * j + 1)) (getD_bit hB (8 * j + 2)) (getD_bit hB (8 * j + 3)) (getD_bit hB (8 * j + 4)) (getD_bit hB (8 * j + 5)) (getD_bit hB (8 * j + 6)) (getD_bit hB (8 * j + 7))
  have : t = 0 ∨ t = 1 ∨ t = 2 ∨ t = 3 ∨ t = 4 ∨ t = 5 ∨ t = 6 ∨ t = 7 := by omega
  rcases this with rfl | rfl | rfl | rfl | rfl | rfl | rfl | rfl
  · exact h.1
  · exact h.2.1
  · exact h.2.2.1
  · exact h.2.2.2.1
  · exact h.2.2.2.2.1
  · exact h.2.2.2.2.2.1
  · exact h.2.2.2.2.2.2.1
  · exact h.2.2.2.2.2.2.2
theorem bt_packB {B : List Int} (hB : ∀ b ∈ B, b = 0 ∨ b = 1) (i : Nat) : bt (packB B) i = B.getD i 0 := by
  unfold bt packB
  rw [List.getD_eq_getElem?_getD, List.getElem?_map]
  by_cases h : i / 8 < (B.length + 7) / 8
  · rw [List.getElem?_range h]
    have := byteAt_bit hB (i / 8) (i % 8) (by omega)
    rw [show 8 * (i / 8) + i % 8 = i by omega] at this
    exact this
  · rw [List.getElem?_eq_none (by simp; omega), getD_out B (by omega)]
    simp
theorem rd_map (B : List Int) (n j : Nat) (h : j < n) : rd ((List.range n).map (byteAt B)) (j : Int) = byteAt B j := by
  unfold rd
  rw [List.getD_eq_getElem?_getD, List.getElem?_map, show ((j : Int)).toNat = j from rfl, List.getElem?_range h]; rfl
theorem w64n {n : Nat} (h : n ≤ 1000000000) : wrap64 (n : Int) = n := by unfold wrap64; omega
theorem w64s {n : Nat} (h : n + 1 ≤ 1000000000) : wrap64 ((n : Int) + 1) = ((n + 1 : Nat) : Int) := by unfold wrap64; omega
theorem and_one_i64 (y : Int) : bits .and .i64 y 1 = y % 2 := by
  show IntKind.i64.wrap ((BitVec.ofInt 64 y &&& BitVec.ofInt 64 1).toNat : Int) = _
  have e : (BitVec.ofInt 64 y &&& BitVec.ofInt 64 1).toNat = (y % 2).toNat := by
    rw [BitVec.toNat_and, BitVec.toNat_ofInt, BitVec.toNat_ofInt]
    have b : ((1 : Int) % ((2 ^ 64 : Nat) : Int)).toNat = 1 := by decide
    rw [b, Nat.and_one_is_mod]
    omega
  rw [e, IntKind.wrap_i64]
  omega
theorem or_low_high8 (i : Nat) (x y : Int) (hx0 : 0 ≤ x) (hx : x < 2 ^ i) (hy0 : 0 ≤ y) (hy : y % 2 ^ i = 0) (hy1 : y < 256) (hx1 : x < 256) :
    bits .or .u8 x y = x + y := by
  have := bits_join .u8 8 (by decide) wraps_u8 i y x hy0 hy (by omega) hx0 hx (by omega)
  obtain ⟨a, rfl⟩ := Int.eq_ofNat_of_zero_le hx0
  obtain ⟨b, rfl⟩ := Int.eq_ofNat_of_zero_le hy0
  have c := (bits_nat .u8 8 (by decide) wraps_u8 a b (by omega) (by omega)).2
  have d := (bits_nat .u8 8 (by decide) wraps_u8 b a (by omega) (by omega)).2
  rw [Nat.or_comm] at c
  have : bits .or .u8 (a : Int) (b : Int) = bits .or .u8 (b : Int) (a : Int) := c.trans d.symm
  omega
theorem pk_byte {B : List Int} (hB : ∀ b ∈ B, b = 0 ∨ b = 1) {b : Int} (hb : b = 0 ∨ b = 1) {L : Nat} (hL : B.length = L) (hl : L < 9223372036854775808) :
    bits .or .u8 (byteAt B (L / 8)) (shl .u8 (b % 256) (bits .and .i64 (L : Int) 7)) = byteAt B (L / 8) + b * 2 ^ (L % 8) := by
  have e7 : bits .and .i64 (L : Int) 7 = ((L % 8 : Nat) : Int) := and_low_i64 L 7 3 (by decide) (by decide) hl
  rw [e7]
  have hb1 := byteAt_range hB (L / 8)
  have hb2 := byteAt_last hB
  rw [hL] at hb2
  have hr : L % 8 < 8 := by omega
  have hs : shl .u8 (b % 256) ((L % 8 : Nat) : Int) = b * 2 ^ (L % 8) := by
    unfold shl
    rw [show min (((L % 8 : Nat) : Int)).toNat IntKind.u8.bits = L % 8 from by show min _ 8 = _; omega, IntKind.wrap_u8]
    have hr8 : L % 8 = 0 ∨ L % 8 = 1 ∨ L % 8 = 2 ∨ L % 8 = 3 ∨ L % 8 = 4 ∨ L % 8 = 5 ∨ L % 8 = 6 ∨ L % 8 = 7 := by omega
    rcases hb with rfl | rfl <;> rcases hr8 with h | h | h | h | h | h | h | h <;> rw [h] <;> decide
  rw [hs]
  have hp : (0 : Int) < 2 ^ (L % 8) := Int.pow_pos (by decide)
  have hp2 : (2 : Int) ^ (L % 8) ≤ 128 := by
    have hr8 : L % 8 = 0 ∨ L % 8 = 1 ∨ L % 8 = 2 ∨ L % 8 = 3 ∨ L % 8 = 4 ∨ L % 8 = 5 ∨ L % 8 = 6 ∨ L % 8 = 7 := by omega
    rcases hr8 with h | h | h | h | h | h | h | h <;> rw [h] <;> decide
  refine or_low_high8 (L % 8) _ _ hb1.1 hb2 (by rcases hb with rfl | rfl <;> omega) (Int.mul_emod_left _ _) (by rcases hb with rfl | rfl <;> omega) (by omega)
theorem pk_l1 : ∀ (d : Nat) (k : Nat) (W : Nat) (n c : Nat) (x : Int) (B ys : List Int) (m i : Int), (∀ b ∈ B, b = 0 ∨ b = 1) → c + d = W → W ≤ 64 → B.length + d ≤ 1000000000 → (B.length + d + 7) / 8 ≤ n →
    delta_Pack.l1 (k + d + 1) (W : Int) ((List.range n).map (byteAt B)) (B.length : Int) x ys m i (W : Int) (c : Int) = delta_Pack.l0 k (W : Int) ((List.range n).map (byteAt (B ++ bitsFrom x c d))) ((B.length + d : Nat) : Int) ys m (wrap64 (i + 1))
  | 0, k, W, n, c, x, B, ys, m, i, hB, hc, hW, hl, hn => by
    rw [show k + 0 + 1 = k + 1 by omega, delta_Pack.l1, if_neg (by omega)]; simp [bitsFrom]
  | d + 1, k, W, n, c, x, B, ys, m, i, hB, hc, hW, hl, hn => by
    rw [show k + (d + 1) + 1 = (k + d + 1) + 1 by omega, delta_Pack.l1, if_pos (by omega), if_pos (by omega), if_pos (by rw [List.length_map, List.length_range]; omega), if_pos (by omega)]
    have e7 : bits .and .i64 (B.length : Int) 7 = ((B.length % 8 : Nat) : Int) := and_low_i64 B.length 7 3 (by decide) (by decide) (by omega)
    rw [if_pos (by rw [e7]; omega)]
    have hsh : shr .i64 x (c : Int) = x / 2 ^ c := by
      unfold shr
      rw [show min ((c : Int)).toNat IntKind.i64.bits = c from by show min _ 64 = _; omega]
    rw [hsh, and_one_i64]
    have hb : x / 2 ^ c % 2 = 0 ∨ x / 2 ^ c % 2 = 1 := by omega
    have e8 : (B.length : Int) / 8 = ((B.length / 8 : Nat) : Int) := by omega
    rw [e8, rd_map B n _ (by omega), show ((((B.length / 8 : Nat)) : Int)).toNat = B.length / 8 from rfl, pk_byte hB hb rfl (by omega), map_set B _ n (by omega)]
    have hB' : ∀ b ∈ B ++ [x / 2 ^ c % 2], b = 0 ∨ b = 1 := by
      intro b hb'
      rcases List.mem_append.1 hb' with h | h
      · exact hB b h
      · rw [List.mem_singleton.1 h]; exact hb
    have ih := pk_l1 d k W n (c + 1) x (B ++ [x / 2 ^ c % 2]) ys m i hB' (by omega) hW (by simp; omega) (by simp; omega)
    rw [List.append_assoc, show [x / 2 ^ c % 2] ++ bitsFrom x (c + 1) d = bitsFrom x c (d + 1) from rfl, List.length_append, List.length_singleton] at ih
    rw [w64s (by omega), w64s (by omega), ih, show B.length + 1 + d = B.length + (d + 1) by omega]
theorem rd_snoc {ys0 ys1 : List Int} {x : Int} : rd (ys0 ++ x :: ys1) (ys0.length : Int) = x := by
  unfold rd
  rw [List.getD_eq_getElem?_getD, show ((ys0.length : Int)).toNat = ys0.length from rfl, List.getElem?_append_right (Nat.le_refl _)]; simp
theorem pk_l0 : ∀ (ys1 : List Int) (k : Nat) (W : Nat) (n : Nat) (ys ys0 : List Int), ys = ys0 ++ ys1 → W ≤ 64 → ys.length ≤ 1000000 → (ys.length * W + 7) / 8 ≤ n → ys1.length * (W + 2) + 1 ≤ k →
    delta_Pack.l0 k (W : Int) ((List.range n).map (byteAt (allBits W ys0))) ((ys0.length * W : Nat) : Int) ys (ys.length : Int) (ys0.length : Int) = some ((List.range n).map (byteAt (allBits W ys)))
  | [], k, W, n, ys, ys0, he, hW, hl, hn, hk => by
    obtain ⟨k, rfl⟩ : ∃ j, k = j + 1 := ⟨k - 1, by omega⟩
    rw [List.append_nil] at he
    subst he
    rw [delta_Pack.l0, if_neg (by omega)]
  | x :: ys1, k, W, n, ys, ys0, he, hW, hl, hn, hk => by
    have hll : ys.length = ys0.length + (ys1.length + 1) := by rw [he]; simp
    have hmw : ys0.length * W + W ≤ ys.length * W := by
      have := Nat.mul_le_mul_right W (show ys0.length + 1 ≤ ys.length by omega)
      rw [Nat.add_mul] at this; omega
    have hmb : ys.length * W ≤ 1000000 * 64 := Nat.mul_le_mul hl hW
    have hkk : (x :: ys1).length * (W + 2) = ys1.length * (W + 2) + (W + 2) := by rw [List.length_cons, Nat.add_mul]; omega
    rw [hkk] at hk
    obtain ⟨k', rfl⟩ : ∃ j, k = (j + W + 1) + 1 := ⟨k - W - 2, by omega⟩
    have hrd : rd ys (ys0.length : Int) = x := by rw [he]; exact rd_snoc
    rw [delta_Pack.l0, if_pos (by omega), if_pos (by omega), if_pos (by omega), hrd]
    have hq := pk_l1 W k' W n 0 x (allBits W ys0) ys (ys.length : Int) (ys0.length : Int) (allBits_range W ys0) (by omega) hW (by rw [allBits_length]; omega) (by rw [allBits_length]; omega)
    rw [allBits_length] at hq
    have z : ((0 : Nat) : Int) = 0 := rfl
    rw [z] at hq
    rw [hq, w64 (by omega) (by omega)]
    have e : allBits W ys0 ++ bitsFrom x 0 W = allBits W (ys0 ++ [x]) := by simp [allBits]
    have ih := pk_l0 ys1 k' W n ys (ys0 ++ [x]) (by rw [he]; simp) hW hl hn (by omega)
    rw [List.length_append, List.length_singleton, Nat.add_mul, Nat.one_mul] at ih
    rw [e, show (ys0.length : Int) + 1 = ((ys0.length + 1 : Nat) : Int) by omega]
    exact ih
theorem pack {k : Nat} {W : Nat} {ys : List Int} (hW : W ≤ 64) (hl : ys.length ≤ 1000000) (hk : ys.length * (W + 2) + 2 ≤ k) : delta_Pack.f k (W : Int) ys = some (packB (allBits W ys)) := by
  obtain ⟨k, rfl⟩ : ∃ j, k = j + 1 := ⟨k - 1, by omega⟩
  unfold delta_Pack.f
  have hmb : ys.length * W ≤ 1000000 * 64 := Nat.mul_le_mul hl hW
  have hm : ((ys.length * W : Nat) : Int) = (W : Int) * (ys.length : Int) := by rw [Int.natCast_mul, Int.mul_comm]
  rw [if_neg (by omega), show decide ((W : Int) > 64) = false from decide_eq_false (by omega), delta_Pack.j0, if_neg (by decide), ← hm, w64n (by omega : ys.length * W ≤ 1000000000), w64 (by omega) (by omega), if_pos (by omega), if_pos (by omega)]
  have := pk_l0 ys k W ((((ys.length * W : Nat) : Int) + 7) / 8).toNat ys [] rfl hW hl (by omega) (by omega)
  have e : allBits W [] = [] := rfl
  rw [e, packB_zero] at this
  have z : (([] : List Int).length : Int) = 0 := rfl
  rw [z, List.length_nil, Nat.zero_mul] at this
  refine Eq.trans (show _ = _ from this) ?_
  congr 1
  unfold packB
  rw [allBits_length]
  congr 2
theorem ofInt_wrap64 (x : Int) : BitVec.ofInt 64 (wrap64 x) = BitVec.ofInt 64 x := by
  apply BitVec.eq_of_toNat_eq
  rw [BitVec.toNat_ofInt, BitVec.toNat_ofInt]
  unfold wrap64
  omega
theorem or_i64 (x y : Int) : bits .or .i64 (wrap64 x) (wrap64 y) = wrap64 (bits .or .u64 x y) := by
  show IntKind.i64.wrap ((BitVec.ofInt 64 (wrap64 x) ||| BitVec.ofInt 64 (wrap64 y)).toNat : Int) = wrap64 (IntKind.u64.wrap ((BitVec.ofInt 64 x ||| BitVec.ofInt 64 y).toNat : Int))
  rw [ofInt_wrap64, ofInt_wrap64, u64w, IntKind.wrap_i64]
  have := (BitVec.ofInt 64 x ||| BitVec.ofInt 64 y).isLt
  unfold wrap64
  omega
theorem pow_le64 {d : Nat} (h : d ≤ 64) : (2 : Int) ^ d ≤ 18446744073709551616 := by
  have := Nat.pow_le_pow_right (n := 2) (by decide) h
  have e : ∀ n : Nat, ((2 ^ n : Nat) : Int) = (2 : Int) ^ n := fun n => by simp
  rw [← e]
  exact Int.ofNat_le.2 this
theorem pkBit_eq {bs : List Int} (hu : ∀ x ∈ bs, 0 ≤ x ∧ x ≤ 255) (j : Nat) : pkBit bs j = bt bs j := by
  have := shr_range (t := j % 8) (getD_u8 hu (j / 8))
  unfold pkBit bt
  rw [and_one_u8 _ this.1 this.2]
  exact w64 (by omega) (by omega)
theorem pkF_eq {bs : List Int} (hu : ∀ x ∈ bs, 0 ≤ x ∧ x ≤ 255) (s : Nat) : ∀ k, k ≤ 64 → pkF bs s k = wrap64 (valF (bt bs) s k)
  | 0, _ => by simp [pkF, valF, wrap64]
  | k + 1, h => by
    have hr := valF_range (bt_range bs) k s
    have hb := bt_range bs (s + k)
    have hp : (0 : Int) < 2 ^ k := Int.pow_pos (by decide)
    have hp2 : (2 : Int) ^ k * 2 ≤ 18446744073709551616 := by rw [← Int.pow_succ]; exact pow_le64 h
    rw [pkF, pkF_eq hu s k (by omega), pkBit_eq hu, or_i64, valF_snoc]
    congr 1
    refine or_low_high k _ _ hr.1 hr.2 ?_ (Int.mul_emod_left _ _) ?_ (by omega)
    · rcases hb with e | e <;> rw [e] <;> omega
    · rcases hb with e | e <;> rw [e] <;> omega
theorem digit (x : Int) (c : Nat) (hc : c < 64) : x / 2 ^ c % 2 = (((x % 18446744073709551616).toNat / 2 ^ c % 2 : Nat) : Int) := by
  have hp : (0 : Int) < 2 ^ c := Int.pow_pos (by decide)
  have e64 : (18446744073709551616 : Int) = 2 ^ c * (2 * 2 ^ (63 - c)) := by
    rw [Int.mul_left_comm, ← Int.pow_add, show c + (63 - c) = 63 by omega]; decide
  obtain ⟨m, hm⟩ : ∃ m, m = x % 18446744073709551616 := ⟨_, rfl⟩
  obtain ⟨q, hq⟩ : ∃ q, q = x / 18446744073709551616 := ⟨_, rfl⟩
  have hx : x = m + 2 ^ c * (2 * 2 ^ (63 - c) * q) := by
    rw [← Int.mul_assoc, ← e64, hm, hq]; omega
  have hm0 : 0 ≤ m := by omega
  rw [← hm]
  conv => lhs; rw [hx, Int.add_mul_ediv_left _ _ (by omega)]
  obtain ⟨mn, rfl⟩ := Int.eq_ofNat_of_zero_le hm0
  have e1 : ((mn : Int)).toNat = mn := rfl
  have e2 : (mn : Int) / 2 ^ c = ((mn / 2 ^ c : Nat) : Int) := by simp
  rw [e1, e2, Int.mul_assoc]
  omega
theorem allBits_val {W : Nat} (hW : W ≤ 64) (xs : List Int) (i : Nat) (h : i < xs.length) : valF (bt (packB (allBits W xs))) (i * W) W = (((xs.getD i 0 % 18446744073709551616).toNat % 2 ^ W : Nat) : Int) := by
  have := valF_digits (bt (packB (allBits W xs))) (xs.getD i 0 % 18446744073709551616).toNat W (i * W) 0 (fun t ht => by
    rw [bt_packB (allBits_range W xs), allBits_get W xs i t h ht, Nat.zero_add]
    exact digit _ t (by omega))
  rw [this, Nat.pow_zero, Nat.div_one]
def fitsW (W : Nat) (x : Int) : Prop := (x % 18446744073709551616).toNat < 2 ^ W ∧ -9223372036854775808 ≤ x ∧ x ≤ 9223372036854775807
theorem fits_back {W : Nat} {x : Int} (h : fitsW W x) : wrap64 (((x % 18446744073709551616).toNat % 2 ^ W : Nat) : Int) = x := by
  rw [Nat.mod_eq_of_lt h.1]
  have := h.2
  unfold wrap64
  omega
theorem packed_back {W : Nat} {xs : List Int} (hW : W ≤ 64) (hl : xs.length = 32) (hx : ∀ x ∈ xs, fitsW W x) (tl : List Int) : packedS W (packB (allBits W xs) ++ tl) = .ok (xs, tl) := by
  have hlen : (packB (allBits W xs)).length = 4 * W := by rw [packB_length, allBits_length, hl]; omega
  unfold packedS
  rw [if_pos (by rw [List.length_append, hlen]; omega), List.take_append_of_le_length (by omega), List.take_of_length_le (by omega), List.drop_append_of_le_length (by omega), List.drop_of_length_le (by omega), List.nil_append]
  have hu := packB_range (allBits_range W xs)
  have : packedV (packB (allBits W xs)) W = xs := by
    apply List.ext_getElem
    · rw [packedV_length, hl]
    · intro i h1 h2
      simp only [packedV, List.getElem_map, List.getElem_range]
      rw [pkF_eq hu _ _ hW, allBits_val hW xs i h2, List.getD_eq_getElem?_getD, List.getElem?_eq_getElem h2]
      exact fits_back (hx _ (List.getElem_mem h2))
  rw [this]
end Go.Proofs.Ytbncfhmfohpfbaa.D13
end

section
namespace Go.Proofs.Ytbncfhmfohpfbaa.D13
set_option linter.unusedVariables false
set_option linter.unusedSimpArgs false
open Go.RowKit Go.Proofs.Ytbncfhmfohpfbaa.X Go.Proofs.YtbncfhmfohpfbaaW.PrintWords Go.Proofs.YtbncfhmfohpfbaaW.PrintLast Go.Proofs.YtbncfhmfohpfbaaW.PrintMore Go.Proofs.Ytbncfhmfohpfbaa.Bx Go.Proofs.Ytbncfhmfohpfbaa.Nx Go.Proofs.Ytbncfhmfohpfbaa.Px
def inI (x : Int) : Prop := -9223372036854775808 ≤ x ∧ x ≤ 9223372036854775807
theorem wrap_in (x : Int) : inI (wrap64 x) := by unfold inI wrap64; omega
theorem bitLenAux_lt : ∀ (f x : Nat), x < 2 ^ f → x < 2 ^ Lib.bitLenAux f x
  | 0, x, h => by simpa [Lib.bitLenAux] using h
  | f + 1, x, h => by
    unfold Lib.bitLenAux
    split
    · simp; omega
    · have := bitLenAux_lt f (x / 2) (by rw [Nat.pow_succ] at h; omega)
      rw [Nat.add_comm, Nat.pow_succ]
      omega
theorem bitLenAux_top : ∀ (f x : Nat), Lib.bitLenAux f x ≤ f
  | 0, x => by simp [Lib.bitLenAux]
  | f + 1, x => by
    unfold Lib.bitLenAux
    split
    · omega
    · have := bitLenAux_top f (x / 2); omega
theorem W64_range (x : Int) : 0 ≤ W64 x ∧ W64 x ≤ 64 := by
  unfold W64
  have := bitLenAux_top 64 (IntKind.u64.wrap x).toNat
  unfold Lib.bitLen
  omega
theorem W64_lt (x : Int) : (x % 18446744073709551616).toNat < 2 ^ (W64 x).toNat := by
  unfold W64
  rw [u64w]
  exact bitLenAux_lt 64 _ (by omega)
theorem topW_acc (least : Int) : ∀ (xs : List Int) (m : Int), m ≤ xs.foldl (fun m x => max m (W64 (difW least x))) m ∧ (∀ x ∈ xs, W64 (difW least x) ≤ xs.foldl (fun m x => max m (W64 (difW least x))) m) ∧ (0 ≤ m → m ≤ 64 → xs.foldl (fun m x => max m (W64 (difW least x))) m ≤ 64)
  | [], m => ⟨by simp, by simp, fun _ h => by simpa using h⟩
  | x :: xs, m => by
    have ih := topW_acc least xs (max m (W64 (difW least x)))
    have hr := W64_range (difW least x)
    rw [List.foldl_cons]
    refine ⟨by omega, fun y hy => ?_, fun h0 h1 => ih.2.2 (by omega) (by omega)⟩
    rcases List.mem_cons.1 hy with rfl | hy
    · omega
    · exact ih.2.1 y hy
theorem topW_range (least : Int) (xs : List Int) : 0 ≤ topW least xs ∧ topW least xs ≤ 64 := ⟨(topW_acc least xs 0).1, (topW_acc least xs 0).2.2 (by omega) (by omega)⟩
theorem row_fits (least : Int) (xs : List Int) : ∀ x ∈ rowW least xs, fitsW (topW least xs).toNat x := by
  intro x hx
  have hr := topW_range least xs
  unfold rowW at hx
  rcases List.mem_append.1 hx with h | h
  · obtain ⟨y, hy, rfl⟩ := List.mem_map.1 h
    have h1 := (topW_acc least xs 0).2.1 y hy
    have h2 := W64_lt (difW least y)
    have h3 := W64_range (difW least y)
    refine ⟨Nat.lt_of_lt_of_le h2 (Nat.pow_le_pow_right (by decide) ?_), wrap_in _⟩
    have h4 : W64 (difW least y) ≤ topW least xs := h1
    omega
  · obtain ⟨_, rfl⟩ := List.mem_replicate.1 h
    exact ⟨by simpa using Nat.two_pow_pos _, by decide, by decide⟩
def pakB (least : Int) (d : List Int) (i : Nat) : List Int := packB (allBits (topW least (cutW d i)).toNat (rowW least (cutW d i)))
def wsR (least : Int) (d : List Int) : Nat → Nat → List Int
  | 0, _ => []
  | m + 1, i => topW least (cutW d i) :: wsR least d m (i + 1)
def psR (least : Int) (d : List Int) : Nat → Nat → List Int
  | 0, _ => []
  | m + 1, i => pakB least d i ++ psR least d m (i + 1)
theorem wsR_length (least : Int) (d : List Int) : ∀ m i, (wsR least d m i).length = m
  | 0, _ => rfl
  | m + 1, i => by rw [wsR, List.length_cons, wsR_length least d m]
theorem cutW_length (d : List Int) (i : Nat) : (cutW d i).length ≤ 32 := by unfold cutW; rw [List.length_take]; omega
theorem pakB_length (least : Int) (d : List Int) (i : Nat) : (pakB least d i).length = 4 * (topW least (cutW d i)).toNat := by
  unfold pakB
  rw [packB_length, allBits_length, rowW_length least _ (cutW_length d i)]
  omega
theorem psR_length (least : Int) (d : List Int) : ∀ m i, (psR least d m i).length ≤ 256 * m
  | 0, _ => by simp [psR]
  | m + 1, i => by
    have := psR_length least d m (i + 1)
    have := topW_range least (cutW d i)
    rw [psR, List.length_append, pakB_length]
    omega
theorem laidP_eq {k : Nat} (hk : 3000 ≤ k) (least : Int) (d : List Int) : ∀ (m n i : Nat) (ws ps : List Int), (d.length + 31) / 32 = i + m → m < n → ps.length + 256 * m ≤ 100000 → laidP k least d n i ws ps = some (ws ++ wsR least d m i, ps ++ psR least d m i)
  | 0, n, i, ws, ps, h, hn, hp => by
    obtain ⟨n, rfl⟩ : ∃ j, n = j + 1 := ⟨n - 1, by omega⟩
    rw [laidP, if_neg (by omega)]
    simp [wsR, psR]
  | m + 1, n, i, ws, ps, h, hn, hp => by
    obtain ⟨n, rfl⟩ : ∃ j, n = j + 1 := ⟨n - 1, by omega⟩
    have hr := topW_range least (cutW d i)
    have hl := rowW_length least (cutW d i) (cutW_length d i)
    have hpk := pack (k := k) (W := (topW least (cutW d i)).toNat) (ys := rowW least (cutW d i)) (by omega) (by omega) (by
      rw [hl]
      have : 32 * ((topW least (cutW d i)).toNat + 2) ≤ 32 * 66 := Nat.mul_le_mul_left _ (by omega)
      omega)
    rw [show (((topW least (cutW d i)).toNat : Nat) : Int) = topW least (cutW d i) by omega] at hpk
    have hpl := pakB_length least d i
    unfold pakB at hpl
    rw [laidP, if_pos (by omega), hpk, Option.bind_some, if_pos (by rw [List.length_append, hpl]; omega), laidP_eq hk least d m n (i + 1) _ _ (by omega) (by omega) (by rw [List.length_append, hpl]; omega)]
    rw [wsR, psR, show topW least (cutW d i) % 256 = topW least (cutW d i) by omega]
    simp [pakB]
def npW (d : List Int) : Nat := (d.length + 31) / 32
def minD : List Int → Int
  | [] => 0
  | x :: r => r.foldl min x
def blkB (d : List Int) : List Int := vb (zz (minD d)).toNat ++ (wsR (minD d) d (npW d) 0 ++ List.replicate (4 - npW d) 0) ++ psR (minD d) d (npW d) 0
theorem foldl_min_in : ∀ (r : List Int) (x : Int), inI x → (∀ y ∈ r, inI y) → inI (r.foldl min x)
  | [], x, h, _ => h
  | y :: r, x, h, hr => by
    rw [List.foldl_cons]
    refine foldl_min_in r _ ?_ (fun z hz => hr z (by simp [hz]))
    have := hr y (by simp)
    unfold inI at *
    omega
theorem minD_in {d : List Int} (h : ∀ x ∈ d, inI x) : inI (minD d) := by
  cases d with
  | nil => exact ⟨by decide, by decide⟩
  | cons x r => exact foldl_min_in r x (h x (by simp)) (fun y hy => h y (by simp [hy]))
theorem blkB_length {d : List Int} (h : ∀ x ∈ d, inI x) (hn : d.length ≤ 128) : (blkB d).length ≤ 1040 := by
  have h1 := minD_in h
  have hz := zz_range h1.1 h1.2
  have := vb_length64 (n := (zz (minD d)).toNat) (by omega)
  have := psR_length (minD d) d (npW d) 0
  unfold blkB
  rw [List.length_append, List.length_append, List.length_append, wsR_length, List.length_replicate]
  have : npW d ≤ 4 := by unfold npW; omega
  omega
theorem laid_eq {k : Nat} (hk : 3000 ≤ k) {out d : List Int} (h : ∀ x ∈ d, inI x) (h0 : 0 < d.length) (hn : d.length ≤ 128) (ho : out.length ≤ 99999990) : laidF k out d = some (out ++ blkB d) := by
  have hm : slices_Min_int64_int64.f d = some (minD d) := by
    cases d with
    | nil => simp at h0
    | cons x r => rfl
  have h1 := minD_in h
  have hz := zz_range h1.1 h1.2
  have hv := vb_length64 (n := (zz (minD d)).toNat) (by omega)
  have h4 : npW d ≤ 4 := by unfold npW; omega
  unfold laidF
  rw [hm, Option.bind_some, signed (by omega) (by omega) h1.1 h1.2, Option.bind_some, if_pos (by rw [List.length_append]; omega), laidP_eq hk (minD d) d (npW d) 5 0 [] [] (by unfold npW; omega) (by omega) (by simp; omega), Option.bind_some]
  simp only [List.nil_append, wsR_length, blkB, List.append_assoc]
theorem widS_back (n fr : Int) (least : Int) (d : List Int) : ∀ (m z i : Nat) (tl : List Int), (∀ j, j < m → fr + 32 * ((i + j : Nat) : Int) < n) → widS n fr (m + z) i (wsR least d m i ++ List.replicate z 0 ++ tl) = .ok (wsR least d m i ++ List.replicate z 0, tl)
  | 0, 0, i, tl, h => rfl
  | 0, z + 1, i, tl, h => by
    have ih := widS_back n fr least d 0 z (i + 1) tl (fun j hj => absurd hj (by omega))
    rw [show 0 + (z + 1) = (0 + z) + 1 by omega, widS]
    simp only [wsR, List.nil_append, List.replicate_succ, List.cons_append] at ih ⊢
    simp only [byteS, andS_ok]
    rw [if_pos ⟨by omega, .inl (by trivial)⟩, ih, andS_ok]
  | m + 1, z, i, tl, h => by
    have hr := topW_range least (cutW d i)
    have ih := widS_back n fr least d m z (i + 1) tl (fun j hj => by have := h (j + 1) (by omega); rwa [show i + 1 + j = i + (j + 1) by omega])
    rw [show m + 1 + z = (m + z) + 1 by omega, widS]
    simp only [wsR, List.cons_append]
    simp only [byteS, andS_ok]
    have h0 := h 0 (by omega)
    rw [if_pos ⟨hr.2, .inr h0⟩, ih, andS_ok]
def appD (l ds : List Int) : List Int := ds.foldl (fun l d => l ++ [wrap64 (rd l ((l.length : Int) - 1) + d)]) l
theorem appD_append (l a b : List Int) : appD l (a ++ b) = appD (appD l a) b := by unfold appD; rw [List.foldl_append]
theorem appD_length : ∀ (ds l : List Int), (appD l ds).length = l.length + ds.length
  | [], l => by simp [appD]
  | d :: ds, l => by
    have := appD_length ds (l ++ [wrap64 (rd l ((l.length : Int) - 1) + d)])
    unfold appD at *
    rw [List.foldl_cons, this]
    simp; omega
theorem addS_row (n least : Int) : ∀ (cut : List Int) (m : Nat) (l : List Int), (∀ x ∈ cut, inI x) → (l.length : Int) + cut.length ≤ n → (m = 0 ∨ (l.length : Int) + cut.length = n) → addS n least (cut.map (difW least) ++ List.replicate m 0) l = appD l cut
  | [], 0, l, _, _, _ => rfl
  | [], m + 1, l, _, h, hm => by
    have : (l.length : Int) = n := by rcases hm with h | h; omega; simpa using h
    simp only [List.map_nil, List.nil_append, List.replicate_succ, addS, if_pos this]; rfl
  | d :: cut, m, l, hx, h, hm => by
    have hd := hx d (by simp)
    rw [List.length_cons] at h hm
    rw [List.map_cons, List.cons_append, addS, if_neg (by omega)]
    have e : wrap64 (least + difW least d) = d := by
      have := hd.1; have := hd.2
      unfold difW wrap64; omega
    rw [e, addS_row n least cut m _ (fun x hx' => hx x (by simp [hx'])) (by simp; omega) (by simp; omega)]
    rfl
theorem cutW_drop (d : List Int) (i : Nat) : d.drop (32 * i) = cutW d i ++ d.drop (32 * (i + 1)) := by
  unfold cutW
  rw [show 32 * (i + 1) = 32 * i + 32 by omega, ← List.drop_drop, List.take_append_drop]
theorem cutW_len (d : List Int) (i : Nat) : (cutW d i).length = min 32 (d.length - 32 * i) := by unfold cutW; rw [List.length_take, List.length_drop]
theorem partsS_back (n fr least : Int) (d : List Int) (hx : ∀ x ∈ d, inI x) (hn : d.length ≤ 128) : ∀ (m i : Nat) (l tl : List Int), npW d = i + m → (l.length : Int) + (d.length - 32 * i : Nat) ≤ n → fr + d.length ≤ n → (d.length = 128 ∨ fr + d.length = n) → (l.length : Int) + (d.length - 32 * i : Nat) = fr + d.length →
    partsS n fr least (wsR least d m i ++ List.replicate (4 - npW d) 0) i l (psR least d m i ++ tl) = .ok (appD l (d.drop (32 * i)), tl)
  | 0, i, l, tl, hm, h1, h2, h3, h4 => by
    have hd : d.drop (32 * i) = [] := List.drop_of_length_le (by unfold npW at hm; omega)
    rw [hd]
    simp only [wsR, psR, List.nil_append]
    by_cases c : 4 - npW d = 0
    · rw [c]; rfl
    · obtain ⟨z, hz⟩ : ∃ z, 4 - npW d = z + 1 := ⟨4 - npW d - 1, by omega⟩
      rw [hz, List.replicate_succ, partsS, if_pos (by unfold npW at hm hz; omega)]
      rfl
  | m + 1, i, l, tl, hm, h1, h2, h3, h4 => by
    have hr := topW_range least (cutW d i)
    have hcl := cutW_len d i
    have hcx : ∀ x ∈ cutW d i, inI x := fun x h => hx x (List.mem_of_mem_drop (List.mem_of_mem_take h))
    simp only [wsR, psR, List.cons_append, List.append_assoc]
    rw [partsS, if_neg (by unfold npW at hm; omega)]
    have hb := packed_back (W := (topW least (cutW d i)).toNat) (xs := rowW least (cutW d i)) (by omega) (rowW_length least _ (cutW_length d i)) (row_fits least _) (psR least d m (i + 1) ++ tl)
    unfold pakB
    rw [hb, andS_ok]
    have hrow : addS n least (rowW least (cutW d i)) l = appD l (cutW d i) := by
      unfold rowW
      refine addS_row n least _ _ l hcx (by omega) ?_
      unfold npW at hm
      omega
    have hal := appD_length (cutW d i) l
    rw [hrow, partsS_back n fr least d hx hn m (i + 1) (appD l (cutW d i)) tl (by omega) (by unfold npW at hm; omega) h2 h3 (by unfold npW at hm; omega), ← appD_append, ← cutW_drop]
end Go.Proofs.Ytbncfhmfohpfbaa.D13
end

section
namespace Go.Proofs.Ytbncfhmfohpfbaa.D13
set_option linter.unusedVariables false
set_option linter.unusedSimpArgs false
open Go.RowKit Go.Proofs.Ytbncfhmfohpfbaa.X Go.Proofs.YtbncfhmfohpfbaaW.PrintWords Go.Proofs.YtbncfhmfohpfbaaW.PrintLast Go.Proofs.YtbncfhmfohpfbaaW.PrintMore Go.Proofs.Ytbncfhmfohpfbaa.Bx Go.Proofs.Ytbncfhmfohpfbaa.Nx Go.Proofs.Ytbncfhmfohpfbaa.Px
theorem rd_lt (L : List Int) (i : Nat) (h : i < L.length) : rd L (i : Int) = L[i] := by
  unfold rd
  rw [List.getD_eq_getElem?_getD, show ((i : Int)).toNat = i from rfl, List.getElem?_eq_getElem h]; rfl
theorem rd_take (L : List Int) (a i : Nat) (h : i < a) (ha : a ≤ L.length) : rd (L.take a) (i : Int) = rd L (i : Int) := by
  rw [rd_lt _ i (by rw [List.length_take]; omega), rd_lt L i (by omega), List.getElem_take]
theorem take_snoc (L : List Int) (a : Nat) (h : a < L.length) : L.take (a + 1) = L.take a ++ [rd L (a : Int)] := by
  rw [List.take_succ_eq_append_getElem h, rd_lt L a h]
theorem difs_back (L : List Int) (hx : ∀ x ∈ L, inI x) (a : Nat) (ha : 1 ≤ a) : ∀ m, a + m ≤ L.length → appD (L.take a) (difD L a m) = L.take (a + m)
  | 0, h => rfl
  | m + 1, h => by
    have ih := difs_back L hx a ha m (by omega)
    rw [difD_succ, appD_append, ih]
    show L.take (a + m) ++ [wrap64 (rd (L.take (a + m)) (((L.take (a + m)).length : Int) - 1) + wrap64 (rd L ((a : Int) + (m : Int)) - rd L ((a : Int) + (m : Int) - 1)))] = _
    have hl : (L.take (a + m)).length = a + m := by rw [List.length_take]; omega
    have e1 : (((L.take (a + m)).length : Int) - 1) = ((a + m - 1 : Nat) : Int) := by rw [hl]; omega
    have e2 : (a : Int) + (m : Int) = ((a + m : Nat) : Int) := by omega
    have e3 : (a : Int) + (m : Int) - 1 = ((a + m - 1 : Nat) : Int) := by omega
    rw [e3, e2, e1, rd_take L _ _ (by omega) (by omega), show a + (m + 1) = (a + m) + 1 by omega, take_snoc L (a + m) (by omega)]
    have hi := hx _ (List.getElem_mem (show a + m < L.length by omega))
    rw [← rd_lt L (a + m) (by omega)] at hi
    generalize rd L ((a + m : Nat) : Int) = u at *
    generalize rd L ((a + m - 1 : Nat) : Int) = v
    congr 2
    obtain ⟨h1, h2⟩ := hi
    unfold wrap64
    omega
theorem difD_in (L : List Int) (a : Int) (m : Nat) : ∀ x ∈ difD L a m, inI x := by
  intro x hx
  obtain ⟨j, _, rfl⟩ := List.mem_map.1 hx
  exact wrap_in _
theorem loop_back (L : List Int) (hx : ∀ x ∈ L, inI x) : ∀ (dd kk fr : Nat) (tl : List Int), 1 ≤ fr → (L.length : Int) - fr < 128 * dd → (L.length : Int) - fr < 128 * kk →
    loopS (L.length : Int) kk (fr : Int) (L.take fr) ((blksD L dd fr).flatMap blkB ++ tl) = .ok (L, tl)
  | 0, kk, fr, tl, h1, h2, h3 => by
    have hL : L.take fr = L := List.take_of_length_le (by omega)
    rw [hL]
    cases kk with
    | zero => rfl
    | succ kk => rw [loopS, if_neg (by omega)]; rfl
  | dd + 1, kk, fr, tl, h1, h2, h3 => by
    by_cases c : (fr : Int) < (L.length : Int)
    · obtain ⟨kk, rfl⟩ : ∃ j, kk = j + 1 := ⟨kk - 1, by omega⟩
      obtain ⟨m, hm⟩ : ∃ m, m = (min (L.length : Int) ((fr : Int) + 128) - (fr : Int)).toNat := ⟨_, rfl⟩
      obtain ⟨T, hT⟩ : ∃ T, T = (blksD L dd (fr + 128)).flatMap blkB ++ tl := ⟨_, rfl⟩
      rw [blksD, if_pos c, ← hm, List.flatMap_cons, loopS, if_pos c, List.append_assoc, ← hT]
      have hd := difD_in L fr m
      have hdl := difD_length L fr m
      have hmin := minD_in hd
      unfold blkB
      simp only [List.append_assoc]
      rw [signed_back hmin.1 hmin.2, andS_ok]
      have hw := widS_back (L.length : Int) fr (minD (difD L fr m)) (difD L fr m) (npW (difD L fr m)) (4 - npW (difD L fr m)) 0
      have hnp : npW (difD L fr m) ≤ 4 := by unfold npW; omega
      rw [show npW (difD L fr m) + (4 - npW (difD L fr m)) = 4 by omega] at hw
      have hw2 := hw (psR (minD (difD L fr m)) (difD L fr m) (npW (difD L fr m)) 0 ++ T) (fun j hj => by unfold npW at hj; omega)
      simp only [List.append_assoc] at hw2
      have hblk : ((fr : Int) + 128) = ((fr + 128 : Nat) : Int) := by omega
      rw [hw2, andS_ok]
      have hp := partsS_back (L.length : Int) fr (minD (difD L fr m)) (difD L fr m) hd (by omega) (npW (difD L fr m)) 0 (L.take fr) T (by omega) (by rw [List.length_take]; omega) (by omega) (by omega) (by rw [List.length_take]; omega)
      rw [hp, andS_ok, Nat.mul_zero, List.drop_zero, difs_back L hx fr h1 m (by omega)]
      have ht : L.take (fr + m) = L.take (fr + 128) := by
        by_cases e : m = 128
        · rw [e]
        · rw [List.take_of_length_le (by omega), List.take_of_length_le (by omega)]
      rw [ht, hT, hblk]
      exact loop_back L hx dd kk (fr + 128) tl (by omega) (by omega) (by omega)
    · have hL : L.take fr = L := List.take_of_length_le (by omega)
      rw [hL, blksD, if_neg c]
      cases kk with
      | zero => rfl
      | succ kk => rw [loopS, if_neg (by omega)]; rfl
def listB (L : List Int) : List Int := [128, 1, 4] ++ (vb L.length ++ if L.length = 0 then [0] else vb (zz (rd L 0)).toNat ++ (allD L).flatMap blkB)
theorem blksD_ok (L : List Int) : ∀ (dd : Nat) (at_ : Int), ∀ d ∈ blksD L dd at_, (∀ x ∈ d, inI x) ∧ 0 < d.length ∧ d.length ≤ 128
  | 0, _, d, h => by cases h
  | dd + 1, at_, d, h => by
    rw [blksD] at h
    split at h
    · rcases List.mem_cons.1 h with rfl | h
      · exact ⟨difD_in _ _ _, by rw [difD_length]; omega, by rw [difD_length]; omega⟩
      · exact blksD_ok L dd _ d h
    · cases h
theorem blksD_count (L : List Int) : ∀ (dd : Nat) (at_ : Int), (blksD L dd at_).length ≤ dd
  | 0, _ => Nat.le_refl _
  | dd + 1, at_ => by
    rw [blksD]
    split
    · rw [List.length_cons]; exact Nat.succ_le_succ (blksD_count L dd _)
    · simp
theorem laids_eq {k : Nat} (hk : 3000 ≤ k) : ∀ (ds : List (List Int)) (out : List Int), (∀ d ∈ ds, (∀ x ∈ d, inI x) ∧ 0 < d.length ∧ d.length ≤ 128) → out.length + 1040 * ds.length ≤ 99999990 → ds.foldlM (laidF k) out = some (out ++ ds.flatMap blkB)
  | [], out, _, _ => by simp
  | d :: ds, out, h, hl => by
    obtain ⟨h1, h2, h3⟩ := h d (by simp)
    have hb := blkB_length h1 h3
    rw [List.length_cons] at hl
    rw [List.foldlM_cons, laid_eq hk h1 h2 h3 (by omega)]
    show ds.foldlM (laidF k) (out ++ blkB d) = _
    rw [laids_eq hk ds _ (fun d hd => h d (by simp [hd])) (by rw [List.length_append]; omega)]
    simp
theorem rd0_in {L : List Int} (hx : ∀ x ∈ L, inI x) : inI (rd L 0) := by
  cases L with
  | nil => exact ⟨by decide, by decide⟩
  | cons x L => exact hx x (by simp)
theorem writeB_eq {k : Nat} (hk : 3000 ≤ k) {L : List Int} (hx : ∀ x ∈ L, inI x) (hl : L.length ≤ 65536) : writeB k L = some (listB L) := by
  have h0 := rd0_in hx
  have hz := zz_range h0.1 h0.2
  have hv := vb_length64 (n := (zz (rd L 0)).toNat) (by omega)
  have hv2 := vb_length64 (n := L.length) (by omega)
  have hn := number (k := k) (acc := [128, 1, 4]) (x := (L.length : Int)) (by omega) (by simp) (by omega) (by omega)
  rw [show ((L.length : Int)).toNat = L.length from rfl] at hn
  unfold writeB listB
  rw [hn, Option.bind_some]
  by_cases c : L.length = 0
  · rw [if_pos c, if_pos c]; simp
  · have hc := blksD_count L 600 1
    rw [if_neg c, if_neg c, signed (by omega) (by rw [List.length_append, List.length_cons, List.length_cons, List.length_cons, List.length_nil]; omega) h0.1 h0.2, Option.bind_some, laids_eq hk (allD L) _ (blksD_ok L 600 1) (by
      simp only [List.length_append, List.length_cons, List.length_nil]
      have : (allD L).length ≤ 600 := hc
      omega)]
    simp only [List.append_assoc]
theorem list_back {L : List Int} (hx : ∀ x ∈ L, inI x) (hl : L.length ≤ 65536) (tl : List Int) : listS (listB L ++ tl) = .ok (L, tl) := by
  have h0 := rd0_in hx
  have hz := zz_range h0.1 h0.2
  have e128 : vb 128 = [128, 1] := by rw [vb_big (by omega), vb_small (by omega)]; rfl
  have e4 : vb 4 = [4] := by rw [vb_small (by omega)]; rfl
  have e0 : vb 0 = [0] := by rw [vb_small (by omega)]; rfl
  have eh : ([128, 1, 4] : List Int) = vb 128 ++ vb 4 := by rw [e128, e4]; rfl
  unfold listB listS wantS
  rw [eh]
  simp only [List.append_assoc]
  rw [numS_back (by omega), andS_ok, if_pos (by rfl)]
  rw [numS_back (by omega), andS_ok, if_pos (by rfl)]
  unfold tailS
  rw [numS_back (by omega), andS_ok, if_pos (by omega)]
  by_cases c : L.length = 0
  · rw [if_pos c]
    have hL : L = [] := List.length_eq_zero_iff.1 c
    subst hL
    have es : mapS sgnV (numS 0 0 ([0] ++ tl)) = .ok ((0 : Int), tl) := by
      have := signed_back (y := 0) (by omega) (by omega) tl
      rw [show (zz 0).toNat = 0 by decide, e0] at this
      exact this
    rw [es, andS_ok, if_pos (.inr rfl), if_pos (by rfl)]
  · rw [if_neg c]
    simp only [List.append_assoc]
    rw [signed_back h0.1 h0.2, andS_ok, if_pos (.inl (by omega)), if_neg (by omega)]
    have hf : [rd L 0] = L.take 1 := by
      have := take_snoc L 0 (by omega)
      rw [this]; rfl
    rw [hf]
    have := loop_back L hx 600 513 1 tl (by omega) (by omega) (by omega)
    exact this
theorem wsR_range (least : Int) (d : List Int) : ∀ (m i : Nat), ∀ x ∈ wsR least d m i, 0 ≤ x ∧ x ≤ 255
  | 0, _, x, h => by cases h
  | m + 1, i, x, h => by
    have := topW_range least (cutW d i)
    rcases List.mem_cons.1 h with rfl | h
    · omega
    · exact wsR_range least d m _ x h
theorem psR_range (least : Int) (d : List Int) : ∀ (m i : Nat), ∀ x ∈ psR least d m i, 0 ≤ x ∧ x ≤ 255
  | 0, _, x, h => by cases h
  | m + 1, i, x, h => by
    rcases List.mem_append.1 h with h | h
    · exact packB_range (allBits_range _ _) x h
    · exact psR_range least d m _ x h
theorem blkB_range (d : List Int) : ∀ x ∈ blkB d, 0 ≤ x ∧ x ≤ 255 := by
  intro x h
  unfold blkB at h
  rcases List.mem_append.1 h with h | h
  · rcases List.mem_append.1 h with h | h
    · exact vb_range _ x h
    · rcases List.mem_append.1 h with h | h
      · exact wsR_range _ _ _ _ x h
      · obtain ⟨_, rfl⟩ := List.mem_replicate.1 h; omega
  · exact psR_range _ _ _ _ x h
theorem listB_range (L : List Int) : ∀ x ∈ listB L, 0 ≤ x ∧ x ≤ 255 := by
  intro x h
  unfold listB at h
  rcases List.mem_append.1 h with h | h
  · simp at h; omega
  rcases List.mem_append.1 h with h | h
  · exact vb_range _ x h
  split at h
  · simp at h; omega
  · rcases List.mem_append.1 h with h | h
    · exact vb_range _ x h
    · obtain ⟨d, _, hd⟩ := List.mem_flatMap.1 h
      exact blkB_range d x hd
theorem listB_five {L : List Int} (hx : ∀ x ∈ L, inI x) (hl : L.length ≤ 65536) : 5 ≤ (listB L).length := by
  have h0 := rd0_in hx
  have hz := zz_range h0.1 h0.2
  have hv := vb_length64 (n := (zz (rd L 0)).toNat) (by omega)
  have hv2 := vb_length64 (n := L.length) (by omega)
  unfold listB
  split
  · simp only [List.length_append, List.length_cons, List.length_nil]; omega
  · simp only [List.length_append, List.length_cons, List.length_nil]; omega
theorem write_eq {k : Nat} (hk : 3000 ≤ k) {L : List Int} (hx : ∀ x ∈ L, inI x) (hl : L.length ≤ 65536) : delta_Write.f k L = some (listB L, 0) := by
  unfold delta_Write.f
  rw [if_neg (by omega), writeB_eq hk hx hl]; rfl
theorem addS_in (n least : Int) : ∀ (xs l : List Int), (∀ x ∈ l, inI x) → ∀ x ∈ addS n least xs l, inI x
  | [], l, h => h
  | y :: xs, l, h => by
    rw [addS]
    split
    · exact h
    · refine addS_in n least xs _ fun x hx => ?_
      rcases List.mem_append.1 hx with hx | hx
      · exact h x hx
      · rw [List.mem_singleton.1 hx]; exact wrap_in _
theorem andS_inv {α β : Type} {r : Except Int (α × List Int)} {k : α → List Int → Except Int (β × List Int)} {v : β} {b : List Int} (h : andS r k = .ok (v, b)) : ∃ v1 b1, r = .ok (v1, b1) ∧ k v1 b1 = .ok (v, b) := by
  cases r with
  | error x => rw [andS_err] at h; cases h
  | ok p => exact ⟨p.1, p.2, rfl, h⟩
theorem partsS_in (n fr least : Int) : ∀ (ws : List Int) (i : Nat) (l b l' r : List Int), (∀ x ∈ l, inI x) → partsS n fr least ws i l b = .ok (l', r) → ∀ x ∈ l', inI x
  | [], i, l, b, l', r, hl, h => by
    obtain ⟨rfl, _⟩ : l = l' ∧ b = r := by simpa [partsS] using h
    exact hl
  | w :: ws, i, l, b, l', r, hl, h => by
    rw [partsS] at h
    split at h
    · obtain ⟨rfl, _⟩ : l = l' ∧ b = r := by simpa using h
      exact hl
    · obtain ⟨v1, b1, _, h⟩ := andS_inv h
      exact partsS_in n fr least ws _ _ _ l' r (addS_in n least v1 l hl) h
theorem loopS_in (n : Int) : ∀ (k : Nat) (fr : Int) (l b l' r : List Int), (∀ x ∈ l, inI x) → loopS n k fr l b = .ok (l', r) → ∀ x ∈ l', inI x
  | 0, fr, l, b, l', r, hl, h => by
    obtain ⟨rfl, _⟩ : l = l' ∧ b = r := by simpa [loopS] using h
    exact hl
  | k + 1, fr, l, b, l', r, hl, h => by
    rw [loopS] at h
    split at h
    · obtain ⟨v1, b1, _, h⟩ := andS_inv h
      obtain ⟨v2, b2, _, h⟩ := andS_inv h
      obtain ⟨v3, b3, h3, h⟩ := andS_inv h
      exact loopS_in n k _ v3 b3 l' r (partsS_in n fr _ _ _ _ _ _ _ hl h3) h
    · obtain ⟨rfl, _⟩ : l = l' ∧ b = r := by simpa using h
      exact hl
theorem sgnV_in (n : Int) : inI (sgnV n) := by
  unfold sgnV
  show inI (IntKind.i64.wrap _)
  rw [IntKind.wrap_i64]
  unfold inI
  omega
theorem mapS_inv {α β : Type} {f : α → β} {r : Except Int (α × List Int)} {v : β} {b : List Int} (h : mapS f r = .ok (v, b)) : ∃ v1, v = f v1 := by
  cases r with
  | error x => simp [mapS] at h
  | ok p => simp [mapS] at h; exact ⟨p.1, h.1.symm⟩
theorem listS_in {b l r : List Int} (h : listS b = .ok (l, r)) : ∀ x ∈ l, inI x := by
  unfold listS wantS at h
  obtain ⟨v1, b1, _, h⟩ := andS_inv h
  split at h
  · obtain ⟨v2, b2, _, h⟩ := andS_inv h
    split at h
    · unfold tailS at h
      obtain ⟨v3, b3, _, h⟩ := andS_inv h
      split at h
      · obtain ⟨v4, b4, h4, h⟩ := andS_inv h
        split at h
        · split at h
          · obtain ⟨rfl, _⟩ : [] = l ∧ b4 = r := by simpa using h
            simp
          · obtain ⟨y, rfl⟩ := mapS_inv h4
            refine loopS_in _ _ _ _ _ _ _ (fun x hx => ?_) h
            rw [List.mem_singleton.1 hx]
            exact sgnV_in y
        · cases h
      · cases h
    · cases h
  · cases h
def beginR (b : List Int) : List Int × Int × Int :=
  match listS b with
  | .error x => ([], 0, x)
  | .ok (l, r) => if (strOfNums (listB l)).toList = (strOfNums (b.take (b.length - r.length))).toList then (l, ((b.length - r.length : Nat) : Int), 0) else ([], 0, 8)
theorem begin_eq {k : Nat} (hk : 3000 ≤ k) {b : List Int} (hu : ∀ x ∈ b, 0 ≤ x ∧ x ≤ 255) : delta_Begin.f k b = some (beginR b) := by
  unfold delta_Begin.f
  rw [if_pos (u8All_iff.2 hu)]
  unfold beginF beginR
  cases h : listS b with
  | error x => rfl
  | ok p =>
    obtain ⟨l, r⟩ := p
    simp only []
    rw [writeB_eq hk (listS_in h) (listS_len h), Option.bind_some]
    unfold bytes_Equal.f
    rw [Option.bind_some]
    by_cases c : (strOfNums (listB l)).toList = (strOfNums (b.take (b.length - r.length))).toList
    · rw [if_pos c, if_pos (by simp [c])]
    · rw [if_neg c, if_neg (by simp [c])]
theorem begin_back {L : List Int} (hx : ∀ x ∈ L, inI x) (hl : L.length ≤ 65536) (tl : List Int) : beginR (listB L ++ tl) = (L, ((listB L).length : Int), 0) := by
  unfold beginR
  rw [list_back hx hl]
  simp only []
  have e : (listB L ++ tl).length - tl.length = (listB L).length := by rw [List.length_append]; omega
  rw [e, List.take_left', if_pos rfl]
  rfl
end Go.Proofs.Ytbncfhmfohpfbaa.D13
end

section
namespace Go.Proofs.Ytbncfhmfohpfbaa.D13
set_option linter.unusedVariables false
set_option linter.unusedSimpArgs false
open Go.RowKit Go.Proofs.Ytbncfhmfohpfbaa.X Go.Proofs.YtbncfhmfohpfbaaW.PrintWords Go.Proofs.YtbncfhmfohpfbaaW.PrintLast Go.Proofs.YtbncfhmfohpfbaaW.PrintMore Go.Proofs.Ytbncfhmfohpfbaa.Bx Go.Proofs.Ytbncfhmfohpfbaa.Nx Go.Proofs.Ytbncfhmfohpfbaa.Px
theorem same_l (l : List Int) (hl : l.length ≤ 1000000000) : ∀ (d k i : Nat), i + d = l.length → d < k → marquetrylaw13_same.l0 k l l (i : Int) = some true
  | 0, k, i, h, hk => by
    obtain ⟨k, rfl⟩ : ∃ j, k = j + 1 := ⟨k - 1, by omega⟩
    rw [marquetrylaw13_same.l0, if_neg (by omega)]
  | d + 1, k, i, h, hk => by
    obtain ⟨k, rfl⟩ : ∃ j, k = j + 1 := ⟨k - 1, by omega⟩
    rw [marquetrylaw13_same.l0, if_pos (by omega), if_pos (by omega), if_pos (by omega), if_pos rfl, w64 (by omega) (by omega)]
    exact same_l l hl d k (i + 1) (by omega) (by omega)
theorem same {k : Nat} {l : List Int} (hl : l.length ≤ 1000000000) (hk : l.length < k) : marquetrylaw13_same.f k l l = some true := by
  unfold marquetrylaw13_same.f
  rw [if_pos rfl]
  exact same_l l hl l.length k 0 (by omega) hk
def readR (b : List Int) (count : Int) : List Int × Int :=
  if count < 0 ∨ 65536 < count then ([], 2) else
    if (beginR b).2.2 = 0 then (if ((beginR b).1.length : Int) = count then (if (beginR b).2.1 < (b.length : Int) then ([], 7) else ((beginR b).1, 0)) else ([], 8)) else ([], (beginR b).2.2)
theorem read_eq {k : Nat} (hk : 3001 ≤ k) {b : List Int} (hu : ∀ x ∈ b, 0 ≤ x ∧ x ≤ 255) (count : Int) : delta_Read.f k b count = some (readR b count) := by
  obtain ⟨k, rfl⟩ : ∃ j, k = j + 1 := ⟨k - 1, by omega⟩
  unfold delta_Read.f readR
  by_cases c : count < 0
  · rw [if_pos c, if_pos (.inl c), delta_Read.j0, if_pos rfl]
  · rw [if_neg c]
    by_cases c2 : count > 65536
    · rw [if_pos (.inr c2), decide_eq_true c2, delta_Read.j0, if_pos rfl]
    · rw [if_neg (by omega), decide_eq_false c2, delta_Read.j0, if_neg (by decide), begin_eq (by omega) hu, Option.bind_some]
      split
      · split
        · split <;> rfl
        · rfl
      · rfl
theorem read_back {L : List Int} (hx : ∀ x ∈ L, inI x) (hl : L.length ≤ 65536) : readR (listB L) (L.length : Int) = (L, 0) := by
  have := begin_back hx hl []
  rw [List.append_nil] at this
  unfold readR
  rw [this, if_neg (by omega), if_pos rfl, if_pos rfl, if_neg (show ¬ ((listB L).length : Int) < ((listB L).length : Int) by omega)]
def vbF : Nat → Nat → List Int
  | 0, n => [(n : Int)]
  | f + 1, n => if n < 128 then [(n : Int)] else ((n % 128 + 128 : Nat) : Int) :: vbF f (n / 128)
theorem vb_F : ∀ (f n : Nat), n < 128 ^ (f + 1) → vb n = vbF f n
  | 0, n, h => vb_small (by simpa using h)
  | f + 1, n, h => by
    rw [vbF]
    split
    · rename_i c; exact vb_small c
    · rw [vb_big (by omega), vb_F f (n / 128) (by rw [Nat.pow_succ] at h; omega)]
def L1 : List Int := [7, 5, 3, 1, 2, 3, 4, 5]
def L2 : List Int := [-9223372036854775808, 9223372036854775807]
theorem L1_in : ∀ x ∈ L1, inI x := by intro x h; simp [L1] at h; unfold inI; omega
theorem L2_in : ∀ x ∈ L2, inI x := by intro x h; simp [L2] at h; unfold inI; omega
theorem L1_bytes : listB L1 = [128, 1, 4, 8, 14, 3, 2, 0, 0, 0, 192, 63, 0, 0, 0, 0, 0, 0] := by
  have e1 : allD L1 = [[-2, -2, -2, 1, 1, 1, 1]] := by kernel_rfl
  have e2 : blkB [-2, -2, -2, 1, 1, 1, 1] = vb 3 ++ [2, 0, 0, 0, 192, 63, 0, 0, 0, 0, 0, 0] := by kernel_rfl
  unfold listB
  rw [e1, List.flatMap_cons, e2, show vb L1.length = [8] from vb_small (by decide), show vb (zz (rd L1 0)).toNat = [14] from vb_small (by decide), show vb 3 = [3] from vb_small (by decide)]
  rfl
theorem L2_bytes : (listB L2).length = 19 := by
  have e1 : allD L2 = [[-1]] := by kernel_rfl
  have e2 : blkB [-1] = vb 1 ++ [0, 0, 0, 0] := by kernel_rfl
  have e3 : vb (zz (rd L2 0)).toNat = vbF 9 18446744073709551615 := vb_F 9 _ (by decide)
  unfold listB
  rw [e1, List.flatMap_cons, e2, e3, show vb L2.length = [2] from vb_small (by decide), show vb 1 = [1] from vb_small (by decide)]
  rfl
theorem works {k : Nat} (hk : 3001 ≤ k) : marquetrylaw13_works.f k = some true := by
  have h1 := write_eq (k := k) (by omega) L1_in (by decide)
  have h2 := write_eq (k := k) (by omega) L2_in (by decide)
  have hu := listB_range L1
  have h3 := begin_eq (k := k) (by omega) (b := listB L1 ++ [9]) (fun x hx => by
    rcases List.mem_append.1 hx with h | h
    · exact hu x h
    · simp at h; omega)
  rw [begin_back L1_in (by decide) [9]] at h3
  have h4 : delta_Read.f k (listB L1) 8 = some (L1, 0) := (read_eq (k := k) hk hu 8).trans (congrArg some (read_back L1_in (by decide)))
  have hs := same (k := k) (l := L1) (by decide) (by have : L1.length = 8 := rfl; omega)
  have hl2 := L2_bytes
  unfold marquetrylaw13_works.f
  rw [show ([7, 5, 3, 1, 2, 3, 4, 5] : List Int) = L1 from rfl, h1, Option.bind_some, Option.bind_some]
  rw [L1_bytes] at h3 h4 ⊢
  rw [if_pos (by decide), Option.bind_some, if_pos (by decide), List.nil_append, h3, Option.bind_some]
  rw [show ([-9223372036854775808, 9223372036854775807] : List Int) = L2 from rfl, h2, Option.bind_some]
  rw [h4, Option.bind_some, if_pos (by kernel_rfl)]
  unfold marquetrylaw13_num.f
  rw [Option.bind_some, Option.bind_some, Option.bind_some, if_pos (by kernel_rfl), hs, Option.bind_some, if_pos rfl, if_pos (by rfl), Option.bind_some, if_pos (by rfl), if_pos (by rw [hl2]; rfl)]
  rfl
end Go.Proofs.Ytbncfhmfohpfbaa.D13
end

section
namespace Go.Proofs.Ytbncfhmfohpfbaa.D13
set_option linter.unusedVariables false
set_option linter.unusedSimpArgs false
open Go.RowKit Go.Proofs.Ytbncfhmfohpfbaa.X Go.Proofs.YtbncfhmfohpfbaaW.PrintWords Go.Proofs.YtbncfhmfohpfbaaW.PrintLast Go.Proofs.YtbncfhmfohpfbaaW.PrintMore Go.Proofs.Ytbncfhmfohpfbaa.Bx Go.Proofs.Ytbncfhmfohpfbaa.Nx Go.Proofs.Ytbncfhmfohpfbaa.Px
theorem rd_mid {p t : List Int} {c : Int} {i : Int} (hi : i = (p.length : Int)) : rd (p ++ c :: t) i = c := by subst hi; exact rd_snoc
theorem head_skip : ∀ (d n : Nat) (p t : List Int) (k : Nat) (c : Nat), (vb n).length ≤ d → c < 3 → p.length + (vb n).length ≤ 1000000 →
    marquetrylaw13_head.l0 (k + (vb n).length) (p ++ vb n ++ t) (c : Int) (p.length : Int) = marquetrylaw13_head.l0 k (p ++ vb n ++ t) ((c + 1 : Nat) : Int) ((p.length + (vb n).length : Nat) : Int)
  | 0, n, p, t, k, c, h, _, _ => by
    exfalso
    by_cases q : n < 128
    · rw [vb_small q] at h; simp at h
    · rw [vb_big (by omega)] at h; simp at h
  | d + 1, n, p, t, k, c, h, hc, hp => by
    by_cases q : n < 128
    · rw [vb_small q, List.length_singleton] at hp ⊢
      rw [marquetrylaw13_head.l0, if_pos (by simp; omega), if_pos (by omega), List.append_assoc, List.singleton_append, rd_mid rfl, if_pos (by omega), w64 (by omega) (by omega), if_neg (by omega), w64 (by omega) (by omega)]
      rfl
    · rw [vb_big (by omega), List.length_cons] at hp h ⊢
      rw [show k + ((vb (n / 128)).length + 1) = (k + (vb (n / 128)).length) + 1 by omega, marquetrylaw13_head.l0, if_pos (by simp; omega), if_pos (by omega)]
      have e : p ++ ((n % 128 + 128 : Nat) : Int) :: vb (n / 128) ++ t = (p ++ [((n % 128 + 128 : Nat) : Int)]) ++ vb (n / 128) ++ t := by simp
      have er : rd (p ++ ((n % 128 + 128 : Nat) : Int) :: vb (n / 128) ++ t) (p.length : Int) = ((n % 128 + 128 : Nat) : Int) := by
        rw [List.append_assoc, List.cons_append]; exact rd_mid rfl
      have ih := head_skip d (n / 128) (p ++ [((n % 128 + 128 : Nat) : Int)]) t k c (by omega) hc (by simp; omega)
      rw [List.length_append, List.length_singleton] at ih
      rw [er, if_neg (by omega), if_neg (by omega), w64 (by omega) (by omega), e, show (p.length : Int) + 1 = ((p.length + 1 : Nat) : Int) by omega, ih, show p.length + 1 + (vb (n / 128)).length = p.length + ((vb (n / 128)).length + 1) by omega]
theorem head_last : ∀ (d n : Nat) (p t : List Int) (k : Nat), (vb n).length ≤ d → p.length + (vb n).length ≤ 1000000 →
    marquetrylaw13_head.l0 (k + (vb n).length) (p ++ vb n ++ t) 3 (p.length : Int) = some ((p.length + (vb n).length : Nat) : Int)
  | 0, n, p, t, k, h, _ => by
    exfalso
    by_cases q : n < 128
    · rw [vb_small q] at h; simp at h
    · rw [vb_big (by omega)] at h; simp at h
  | d + 1, n, p, t, k, h, hp => by
    by_cases q : n < 128
    · rw [vb_small q, List.length_singleton] at hp ⊢
      rw [marquetrylaw13_head.l0, if_pos (by simp; omega), if_pos (by omega), List.append_assoc, List.singleton_append, rd_mid rfl, if_pos (by omega), if_pos (by unfold wrap64; omega), w64 (by omega) (by omega)]
      rfl
    · rw [vb_big (by omega), List.length_cons] at hp h ⊢
      rw [show k + ((vb (n / 128)).length + 1) = (k + (vb (n / 128)).length) + 1 by omega, marquetrylaw13_head.l0, if_pos (by simp; omega), if_pos (by omega)]
      have e : p ++ ((n % 128 + 128 : Nat) : Int) :: vb (n / 128) ++ t = (p ++ [((n % 128 + 128 : Nat) : Int)]) ++ vb (n / 128) ++ t := by simp
      have er : rd (p ++ ((n % 128 + 128 : Nat) : Int) :: vb (n / 128) ++ t) (p.length : Int) = ((n % 128 + 128 : Nat) : Int) := by
        rw [List.append_assoc, List.cons_append]; exact rd_mid rfl
      have ih := head_last d (n / 128) (p ++ [((n % 128 + 128 : Nat) : Int)]) t k (by omega) (by simp; omega)
      rw [List.length_append, List.length_singleton] at ih
      rw [er, if_neg (by omega), if_neg (by omega), w64 (by omega) (by omega), e, show (p.length : Int) + 1 = ((p.length + 1 : Nat) : Int) by omega, ih, show p.length + 1 + (vb (n / 128)).length = p.length + ((vb (n / 128)).length + 1) by omega]
def headN (L : List Int) : Nat := 3 + (vb L.length).length + (vb (zz (rd L 0)).toNat).length
def restB (L : List Int) : List Int := (allD L).flatMap blkB
theorem listB_split {L : List Int} (h : L.length ≠ 0) : listB L = vb 128 ++ vb 4 ++ vb L.length ++ vb (zz (rd L 0)).toNat ++ restB L := by
  have e128 : vb 128 = [128, 1] := by rw [vb_big (by omega), vb_small (by omega)]; rfl
  have e4 : vb 4 = [4] := by rw [vb_small (by omega)]; rfl
  unfold listB
  rw [if_neg h, e128, e4]
  simp [restB]
theorem head_eq {L : List Int} (hx : ∀ x ∈ L, inI x) (hl : L.length ≤ 65536) (h : L.length ≠ 0) {k : Nat} (hk : 100 ≤ k) : marquetrylaw13_head.f k (listB L) = some (headN L : Int) := by
  have e128 : vb 128 = [128, 1] := by rw [vb_big (by omega), vb_small (by omega)]; rfl
  have e4 : vb 4 = [4] := by rw [vb_small (by omega)]; rfl
  have h0 := rd0_in hx
  have hz := zz_range h0.1 h0.2
  have hv := vb_length64 (n := (zz (rd L 0)).toNat) (by omega)
  have hv2 := vb_length64 (n := L.length) (by omega)
  obtain ⟨k', rfl⟩ : ∃ j, k = (((j + (vb (zz (rd L 0)).toNat).length) + (vb L.length).length) + (vb 4).length) + (vb 128).length := ⟨k - (3 + (vb L.length).length + (vb (zz (rd L 0)).toNat).length), by rw [e128, e4]; simp; omega⟩
  have s1 := head_skip 10 128 [] (vb 4 ++ vb L.length ++ vb (zz (rd L 0)).toNat ++ restB L) (((k' + (vb (zz (rd L 0)).toNat).length) + (vb L.length).length) + (vb 4).length) 0 (by rw [e128]; simp) (by omega) (by rw [e128]; simp)
  have s2 := head_skip 10 4 (vb 128) (vb L.length ++ vb (zz (rd L 0)).toNat ++ restB L) ((k' + (vb (zz (rd L 0)).toNat).length) + (vb L.length).length) 1 (by rw [e4]; simp) (by omega) (by rw [e128, e4]; simp)
  have s3 := head_skip 10 L.length (vb 128 ++ vb 4) (vb (zz (rd L 0)).toNat ++ restB L) (k' + (vb (zz (rd L 0)).toNat).length) 2 (by omega) (by omega) (by rw [e128, e4]; simp; omega)
  have s4 := head_last 10 (zz (rd L 0)).toNat (vb 128 ++ vb 4 ++ vb L.length) (restB L) k' (by omega) (by rw [e128, e4]; simp; omega)
  have hlen : (vb 128 ++ vb 4 ++ vb L.length).length + (vb (zz (rd L 0)).toNat).length = headN L := by rw [e128, e4]; simp [headN]; omega
  rw [hlen] at s4
  unfold marquetrylaw13_head.f
  rw [listB_split h]
  simp only [List.append_assoc, List.nil_append, List.length_append, List.length_nil, Nat.zero_add, Nat.add_assoc, Nat.reduceAdd] at s1 s2 s3 s4 ⊢
  exact ((s1.trans s2).trans s3).trans s4
theorem head_drop {L : List Int} (h : L.length ≠ 0) : (listB L).drop (headN L) = restB L := by
  have e128 : vb 128 = [128, 1] := by rw [vb_big (by omega), vb_small (by omega)]; rfl
  have e4 : vb 4 = [4] := by rw [vb_small (by omega)]; rfl
  have hlen : (vb 128 ++ vb 4 ++ vb L.length ++ vb (zz (rd L 0)).toNat).length = headN L := by rw [e128, e4]; simp [headN]; omega
  rw [listB_split h, ← hlen, List.drop_left]
theorem head_le {L : List Int} (h : L.length ≠ 0) : headN L ≤ (listB L).length := by
  rw [listB_split h]
  have e128 : vb 128 = [128, 1] := by rw [vb_big (by omega), vb_small (by omega)]; rfl
  have e4 : vb 4 = [4] := by rw [vb_small (by omega)]; rfl
  rw [e128, e4]
  simp [headN]
  omega
theorem take_four (L : List Int) : (listB L).take 4 = [128, 1, 4] ++ (vb L.length).take 1 := by
  have h1 : 1 ≤ (vb L.length).length := by
    by_cases c : L.length < 128
    · rw [vb_small c]; simp
    · rw [vb_big (by omega)]; simp
  unfold listB
  show 128 :: 1 :: 4 :: (vb L.length ++ _).take 1 = _
  rw [List.take_append_of_le_length h1]
  rfl
theorem difD_moved (L : List Int) (by_ : Int) (a m : Nat) (ha : 1 ≤ a) (h : a + m ≤ L.length) : difD (L.map (· + by_)) a m = difD L a m := by
  unfold difD
  refine List.map_congr_left fun j hj => ?_
  have hj' := List.mem_range.1 hj
  have hm : ∀ i : Nat, i < L.length → rd (L.map (· + by_)) (i : Int) = rd L (i : Int) + by_ := fun i hi => by
    rw [rd_lt _ i (by simpa using hi), rd_lt L i hi]; simp
  have e1 : (a : Int) + (j : Int) = ((a + j : Nat) : Int) := by omega
  have e2 : (a : Int) + (j : Int) - 1 = ((a + j - 1 : Nat) : Int) := by omega
  rw [e2, e1, hm _ (by omega), hm _ (by omega)]
  congr 1
  omega
theorem blksD_moved (L : List Int) (by_ : Int) : ∀ (dd a : Nat), 1 ≤ a → blksD (L.map (· + by_)) dd a = blksD L dd a
  | 0, _, _ => rfl
  | dd + 1, a, ha => by
    rw [blksD, blksD, List.length_map]
    split
    · rw [difD_moved L by_ a _ ha (by omega), show (a : Int) + 128 = ((a + 128 : Nat) : Int) by omega, blksD_moved L by_ dd (a + 128) (by omega)]
    · rfl
theorem restB_moved (L : List Int) (by_ : Int) : restB (L.map (· + by_)) = restB L := by
  unfold restB allD
  have := blksD_moved L by_ 600 1 (by omega)
  rw [show (((1 : Nat)) : Int) = 1 from rfl] at this
  rw [this]
end Go.Proofs.Ytbncfhmfohpfbaa.D13
end

section
namespace Go.Proofs.Ytbncfhmfohpfbaa.X
open Go.RowKit Go.Proofs.YtbncfhmfohpfbaaW.PrintWords Go.Proofs.YtbncfhmfohpfbaaW.PrintLast Go.Proofs.YtbncfhmfohpfbaaW.PrintMore
set_option linter.unusedVariables false
set_option linter.unusedSimpArgs false
theorem works_true (w : World) : Calls Try.prog 11 #[] w fun e w' => e = .returned (.bool true) ∧ Below w.heap.size w w' := marquetrylaw13_works.calls 4000 true w (D13.works (by decide))
theorem num_same (x : Int) (w : World) : Calls Try.prog 15 #[.int .i64 x] w fun e w' => e = .returned (.int .i64 x) ∧ Drawn0 w w' := marquetrylaw13_num.calls x x w rfl
def ErrS {α : Type} (res : Except Int (α × List Int)) : Prop := ∀ x, res = .error x → x = 6 ∨ x = 8
theorem ErrS.ok {α : Type} (v : α) (b : List Int) : ErrS (.ok (v, b)) := fun _ h => by cases h
theorem ErrS.e8 {α : Type} : ErrS (.error 8 : Except Int (α × List Int)) := fun _ h => by cases h; exact .inr rfl
theorem ErrS.and {α β : Type} {r : Except Int (α × List Int)} {k : α → List Int → Except Int (β × List Int)} (h : ErrS r) (hk : ∀ v b, ErrS (k v b)) : ErrS (andS r k) := by
  intro x hx
  cases r with
  | error y => rw [andS_err] at hx; cases hx; exact h _ rfl
  | ok p => exact hk p.1 p.2 x hx
theorem ErrS.map {α β : Type} {f : α → β} {r : Except Int (α × List Int)} (h : ErrS r) : ErrS (mapS f r) := by
  intro x hx
  cases r with
  | error y => simp [mapS] at hx; subst hx; exact h _ rfl
  | ok p => simp [mapS] at hx
end Go.Proofs.Ytbncfhmfohpfbaa.X
end

section
namespace Go.Proofs.Ytbncfhmfohpfbaa.X
open Go.RowKit Go.Proofs.YtbncfhmfohpfbaaW.PrintWords Go.Proofs.YtbncfhmfohpfbaaW.PrintLast Go.Proofs.YtbncfhmfohpfbaaW.PrintMore
set_option linter.unusedVariables false
set_option linter.unusedSimpArgs false
theorem gm_info : (Try.prog.info? 2).map (fun i => (i.zero, i.size, i.bytes)) = some (some (.int .i64 0), 1, 8) := by kernel_rfl
structure GmI (w : World) (xs ys : List Int) (v1 v2 : Value) (W : World) : Prop where
  h1 : W.ownsRow w.heap.size 2 1 v1 xs.length (nums .i64 xs)
  h2 : W.ownsRow w.heap.size 2 1 v2 ys.length (nums .i64 ys)
  hb : Below w.heap.size w W
  hne : ∀ j, v1.ownBlock = some j → v2.ownBlock ≠ some j
theorem own_otherN {w w1 : World} {base : Nat} {e : TypeId} {size n : Nat} {v : Value} {xs : List Value} (h : w.ownsRow base e size v n xs) {row : Option Nat} (hg : w.grownBy w1 row) (hne : ∀ j, row = some j → v.ownBlock ≠ some j) : w1.ownsRow base e size v n xs := by
  refine own_other h hg ?_
  cases hv : v.ownBlock with
  | none => exact .inl rfl
  | some j => exact .inr (fun e => hne j e.symm hv)
theorem gm_grow {w0 W w2 : World} {base : Nat} {row : Option Nat} (hb : Below base w0 w2) (hg : W.grownBy w2 row) (hr : ∀ j, row = some j → base ≤ j ∧ j < W.heap.size) (hs : base ≤ W.heap.size) : Below base W w2 :=
  (Below.refl base W).grown hg hs (fun r e => (hr r e).1)
theorem own_len {w : World} {base n m c size : Nat} {e : TypeId} {A : Option Addr} {xs : List Value} (h : w.ownsRow base e size (.slice A m c) n xs) : m = n := by
  obtain ⟨A', c', h⟩ := own_formD h
  injection h with _ h2 _
theorem gm_new {w w2 W W2 : World} {v1 v2 v3 v5 : Value} {xs ys : List Value} {n m : Nat} (hne : ∀ j, v1.ownBlock = some j → v2.ownBlock ≠ some j) (h3 : w2.ownsRow w.heap.size 2 1 v3 n xs) (a3 : v3.ownBlock = v1.ownBlock ∨ ∃ b, v3.ownBlock = some b ∧ W.heap.size ≤ b) (a5 : v5.ownBlock = v2.ownBlock ∨ ∃ b, v5.ownBlock = some b ∧ w2.heap.size ≤ b) (h2 : W2.ownsRow w.heap.size 2 1 v2 m ys) (hW : ∀ j, v2.ownBlock = some j → j < W.heap.size) : ∀ j, v3.ownBlock = some j → v5.ownBlock ≠ some j := by
  intro j hj h5
  have hlt := (World.ownsRow.lt h3 j hj).2
  rcases a5 with e5 | ⟨b, e5, hb⟩
  · rw [e5] at h5
    rcases a3 with e3 | ⟨b3, e3, hb3⟩
    · rw [e3] at hj; exact hne j hj h5
    · rw [e3] at hj; cases hj; have := hW _ h5; omega
  · rw [e5] at h5; cases h5; omega
theorem gm_far {W : World} {v1 v2 v3 : Value} (hne : ∀ j, v1.ownBlock = some j → v2.ownBlock ≠ some j) (a3 : v3.ownBlock = v1.ownBlock ∨ ∃ b, v3.ownBlock = some b ∧ W.heap.size ≤ b) (hW : ∀ j, v2.ownBlock = some j → j < W.heap.size) : ∀ j, v2.ownBlock = some j → v3.ownBlock ≠ some j := by
  intro j hj h3
  rcases a3 with e3 | ⟨b3, e3, hb3⟩
  · rw [e3] at h3; exact hne j h3 hj
  · rw [e3] at h3; cases h3; have := hW _ hj; omega
set_option maxRecDepth 100000 in
set_option maxHeartbeats 4000000 in
theorem gm_main (A : Option Addr) (c : Nat) (l : List Int) (y : Int) (w : World) (hC : Kd.C (Kd.int .i32) w A l.length l) (hc : l.length ≤ c) (hl : l.length ≤ 1000) (h0 : 0 < l.length) (hx : ∀ x ∈ l, -2147483648 ≤ x ∧ x ≤ 2147483647) (hy : -2147483648 ≤ y ∧ y ≤ 2147483647) :
    Calls Try.prog 10 #[.slice A l.length c, .int .i32 y] w fun e w' => e = .returned (.bool true) ∧ Below w.heap.size w w' := by
  have HC := Aside0.mk hC
  have HX := Aside0.mk hx
  have h1b : decide ((l.length : Int) > 1000) = false := decide_eq_false (by omega)
  have hz : ((l.length : Int) == 0) = false := beq_eq_false_iff_ne.2 (by omega)
  have hwy : IntKind.i64.wrap y = y := IntWalk.i64_in _ (by omega)
  have HY := Aside0.mk hy
  have HL0 := Aside0.mk h0
  clear hC hx hy h0
  go_enter Try.func10, Try.ntmps10
  go_wp2_with fail
  go_loopw [5, 6, 7] (fun v5 v6 v7 wr => ∃ (i : Nat) (xs ys : List Int) (A1 A2 : Option Addr) (c1 c2 : Nat), v5 = .slice A1 xs.length c1 ∧ v6 = .slice A2 ys.length c2 ∧ v7 = .int .i64 i ∧ i ≤ l.length ∧ Aside0 (xs = l.take i ∧ ys = (l.take i).map (· + y)) ∧ Aside0 (GmI w xs ys (.slice A1 xs.length c1) (.slice A2 ys.length c2) wr)) (fun _ _ v7 _ => l.length - (intOf v7).toNat)
  case atStart => exact ⟨0, [], [], none, none, 0, 0, rfl, rfl, rfl, Nat.zero_le _, ⟨rfl, rfl⟩, ⟨World.ownsRow_nil _ _ _ _, World.ownsRow_nil _ _ _ _, Below.refl _ _, fun j h => by cases h⟩⟩
  case round =>
    obtain ⟨i, xs, ys, A1, A2, c1, c2, rfl, rfl, rfl, hi, HE, HI⟩ := hrel
    by_cases ci : i < l.length
    · have q1 : decide ((i : Int) < (l.length : Int)) = true := decide_eq_true (by omega)
      have q2 : decide (i < l.length) = true := decide_eq_true ci
      obtain ⟨ad, rfl, hcell⟩ := c_at (Kd.C_below HC.out HI.out.hb) (i : Int) (by omega) (by omega)
      obtain ⟨x, hxe⟩ : ∃ x, x = rd l (i : Int) := ⟨_, rfl⟩
      have hxr : -2147483648 ≤ x ∧ x ≤ 2147483647 := by
        rw [hxe, D13.rd_lt l i ci]; exact HX.out _ (List.getElem_mem ci)
      rw [← hxe, show ((i : Int)).toNat = i from rfl] at hcell
      have hyr := HY.out
      have hwx : IntKind.i64.wrap x = x := IntWalk.i64_in _ (by omega)
      have hws : IntKind.i64.wrap (x + y) = x + y := IntWalk.i64_in _ (by omega)
      have hxl : xs.length = i := by rw [HE.out.1, List.length_take]; omega
      have hyl : ys.length = i := by rw [HE.out.2, List.length_map, List.length_take]; omega
      have HXE := Aside0.mk hxe
      have HLN := Aside0.mk (show (xs.length + 1) * 8 ≤ 140737488355328 ∧ (ys.length + 1) * 8 ≤ 140737488355328 by omega)
      have hcell2 : ∀ w', Below w.heap.size wr w' → w'.cell? (ad.add i) = some (.int .i32 x) := fun w' h => by
        obtain ⟨a1, q1, z1⟩ := c_at (Kd.C_below HC.out (HI.out.hb.trans h)) (i : Int) (by omega) (by omega)
        obtain rfl : ad = a1 := by simpa using q1
        rw [hxe]; exact z1
      have HCL := Aside0.mk hcell2
      have HSZ := Aside0.mk HI.out.hb.size
      have HCI := Aside0.mk ci
      clear hxe hxr hyr hcell2 hxl hyl hi
      go_wp2_with (first
        | ((with_reducible refine gate_builtin (b := .append) (xs := #[.tmp 29, .tmp 35]) rfl ?_); at_builtin; refine print_append_num (w0 := w) w.heap.size rfl (.tmp 29) (.tmp 35) 22 2 .i64 8 rfl Try.underlying22 gm_info (by decide) (.slice A1 xs.length c1) xs x rfl rfl HI.out.h1 HI.out.hb HSZ.out HLN.out.1 ?_; intro v2 w2 ho2 hb2 hg2 hat2; obtain ⟨A3, m3, c3, rfl⟩ : ∃ A3 m3 c3, v2 = .slice A3 m3 c3 := (by obtain ⟨A, c, h⟩ := own_formD ho2; exact ⟨_, _, _, h⟩); have HO3 := Aside0.mk ho2; have HB3 := Aside0.mk hb2; have HO4 := Aside0.mk (own_otherN HI.out.h2 hg2 HI.out.hne); have HAT3 := Aside0.mk hat2; have HS3 := Aside0.mk hb2.size; have hcell := HCL.out w2 (gm_grow hb2 hg2 (World.ownsRow.lt HI.out.h1) HI.out.hb.size); have HG3 := Aside0.mk hg2; clear ho2 hb2 hg2 hat2)
        | ((with_reducible refine gate_builtin (b := .append) (xs := #[.tmp 37, .tmp 46]) rfl ?_); at_builtin; refine print_append_num (w0 := w) w.heap.size rfl (.tmp 37) (.tmp 46) 22 2 .i64 8 rfl Try.underlying22 gm_info (by decide) (.slice A2 ys.length c2) ys (x + y) rfl rfl HO4.out HB3.out HS3.out HLN.out.2 ?_; intro v5 w5 ho5 hb5 hg5 hat5; obtain ⟨A6, m6, c6, rfl⟩ : ∃ A6 m6 c6, v5 = .slice A6 m6 c6 := (by obtain ⟨A, c, h⟩ := own_formD ho5; exact ⟨_, _, _, h⟩); have HO6 := Aside0.mk ho5; have HB6 := Aside0.mk hb5; have HG6 := Aside0.mk hg5; have HAT6 := Aside0.mk hat5; clear ho5 hb5 hg5 hat5))
      have hW := fun j hj => (World.ownsRow.lt HI.out.h2 j hj).2
      have hnew := gm_new (W := wr) HI.out.hne HO3.out HAT3.out HAT6.out HO4.out hW
      have hm3 := own_len HO3.out
      have hm6 := own_len HO6.out
      subst hm3 hm6
      have HE2 := Aside0.mk (show GmI w (xs ++ [x]) (ys ++ [x + y]) (.slice A3 (xs ++ [x]).length c3) (.slice A6 (ys ++ [x + y]).length c6) w5 from ⟨own_otherN HO3.out HG6.out (gm_far (W := wr) HI.out.hne HAT3.out hW), HO6.out, HB6.out, hnew⟩)
      have hwi : IntKind.i64.wrap ((i : Int) + 1) = (i : Int) + 1 := IntWalk.i64_in _ (by have := HCI.out; omega)
      go_wp2
      go_roundw
      case rel =>
        refine ⟨i + 1, xs ++ [x], ys ++ [x + y], A3, A6, c3, c6, rfl, rfl, by go_num, HCI.out, ⟨?_, ?_⟩, HE2⟩
        · rw [D13.take_snoc l i HCI.out, HE.out.1, HXE.out]
        · rw [D13.take_snoc l i HCI.out, HE.out.2, HXE.out, List.map_append]; rfl
      case measure => have := HCI.out; simp [intOf]; omega
    · have hie : i = l.length := by omega
      have q1 : decide ((i : Int) < (l.length : Int)) = false := decide_eq_false (by omega)
      have q2 : decide (i < l.length) = false := decide_eq_false ci
      obtain ⟨hxs, hys⟩ := HE.out
      rw [hie, List.take_of_length_le (Nat.le_refl _)] at hxs hys
      have hin1 : ∀ x ∈ l, D13.inI x := fun x h => by have := HX.out x h; unfold D13.inI; omega
      have hin2 : ∀ x ∈ l.map (· + y), D13.inI x := fun x h => by
        obtain ⟨z, hz, rfl⟩ := List.mem_map.1 h
        have := HX.out z hz; have := HY.out; unfold D13.inI; omega
      have HW1 := Aside0.mk (fun (W : World) (Al : Option Addr) (cl : Nat) (h : Kd.C (Kd.int .i64) W Al xs.length xs) (hcl : xs.length ≤ cl) => delta_Write.calls 4000 Al cl xs (D13.listB xs) 0 W h hcl (D13.write_eq (by decide) (by rw [hxs]; exact hin1) (by rw [hxs]; omega)))
      have HW2 := Aside0.mk (fun (W : World) (Al : Option Addr) (cl : Nat) (h : Kd.C (Kd.int .i64) W Al ys.length ys) (hcl : ys.length ≤ cl) => delta_Write.calls 4000 Al cl ys (D13.listB ys) 0 W h hcl (D13.write_eq (by decide) (by rw [hys]; exact hin2) (by rw [hys, List.length_map]; omega)))
      have HH1 := Aside0.mk (D13.head_eq (k := 200) (L := xs) (by rw [hxs]; exact hin1) (by rw [hxs]; omega) (by rw [hxs]; have := HL0.out; omega) (by decide))
      have HH2 := Aside0.mk (D13.head_eq (k := 200) (L := ys) (by rw [hys]; exact hin2) (by rw [hys, List.length_map]; omega) (by rw [hys, List.length_map]; have := HL0.out; omega) (by decide))
      have HEQ := Aside0.mk (show (D13.listB xs).drop (D13.headN xs) = (D13.listB ys).drop (D13.headN ys) ∧ (D13.listB xs).take 4 = (D13.listB ys).take 4 from by
        have n1 : xs.length ≠ 0 := by rw [hxs]; have := HL0.out; omega
        have n2 : ys.length ≠ 0 := by rw [hys, List.length_map]; have := HL0.out; omega
        rw [D13.head_drop n1, D13.head_drop n2, D13.take_four, D13.take_four]
        refine ⟨?_, ?_⟩
        · rw [hxs, hys, D13.restB_moved]
        · rw [hxs, hys, List.length_map])
      have HLE := Aside0.mk (show D13.headN xs ≤ (D13.listB xs).length ∧ D13.headN ys ≤ (D13.listB ys).length ∧ 5 ≤ (D13.listB xs).length ∧ 5 ≤ (D13.listB ys).length from ⟨D13.head_le (by rw [hxs]; have := HL0.out; omega), D13.head_le (by rw [hys, List.length_map]; have := HL0.out; omega), D13.listB_five (by rw [hxs]; exact hin1) (by rw [hxs]; omega), D13.listB_five (by rw [hys]; exact hin2) (by rw [hys, List.length_map]; omega)⟩)
      obtain ⟨B1, hB1⟩ : ∃ B1, B1 = D13.listB xs := ⟨_, rfl⟩
      obtain ⟨B2, hB2⟩ : ∃ B2, B2 = D13.listB ys := ⟨_, rfl⟩
      obtain ⟨N1, hN1⟩ : ∃ N1, N1 = D13.headN xs := ⟨_, rfl⟩
      obtain ⟨N2, hN2⟩ : ∃ N2, N2 = D13.headN ys := ⟨_, rfl⟩
      rw [← hB1, ← hN1] at HH1 HEQ HLE
      rw [← hB2, ← hN2] at HH2 HEQ HLE
      rw [← hB1] at HW1
      rw [← hB2] at HW2
      obtain ⟨k1, k2, k3⟩ := Kd.R_reads' (Kd.R_of_own (enc := Value.int .i64) (h1 := fun _ => rfl) (ok := fun _ => True) HI.out.h1 (fun _ _ => trivial))
      have HK1 := Aside0.mk k2
      have HK3 := Aside0.mk k3
      obtain ⟨j1, j2, j3⟩ := Kd.R_reads' (Kd.R_of_own (enc := Value.int .i64) (h1 := fun _ => rfl) (ok := fun _ => True) HI.out.h2 (fun _ _ => trivial))
      have HJ2 := Aside0.mk j2
      have HJ3 := Aside0.mk j3
      have HB0 := Aside0.mk HI.out.hb
      clear hxs hys hin1 hin2 hB1 hB2 hN1 hN2 k1 k2 k3 j1 j2 j3 HI HE hie hi
      go_wp2_with fail
      refine (HW1.out _ _ _ HK3.out HK1.out).mono ?_
      rintro e W1 ⟨v1, rfl, hR1, hb1⟩
      obtain ⟨A5, c5, rfl, hc5, hC5⟩ := Kd.R_reads hR1
      have HB1 := Aside0.mk (below_then HB0.out HB0.out.size hb1)
      have HC5 := Aside0.mk hC5
      have HJ4 := Aside0.mk (Kd.C_below HJ3.out hb1)
      have HC5c := Aside0.mk hc5
      clear hR1 hb1 hC5 hc5
      go_wp2_with fail
      refine (HW2.out _ _ _ HJ4.out HJ2.out).mono ?_
      rintro e W2 ⟨v2, rfl, hR2, hb2⟩
      obtain ⟨A6, c6, rfl, hc6, hC6⟩ := Kd.R_reads hR2
      have HB2 := Aside0.mk (below_then HB1.out HB1.out.size hb2)
      have HC6 := Aside0.mk hC6
      have HC5b := Aside0.mk (Kd.C_below HC5.out hb2)
      have HC6c := Aside0.mk hc6
      clear hR2 hb2 hC6 hc6
      have NS := Aside0.mk num_same
      go_wp2_with fail
      refine (NS.out _ _).mono ?_
      rintro e W3 ⟨rfl, ⟨nd3, hW3⟩⟩
      go_wp2_with fail
      refine (NS.out _ _).mono ?_
      rintro e W4 ⟨rfl, ⟨nd4, hW4⟩⟩
      have HB4 := Aside0.mk (show Below w.heap.size w W4 from (by rw [hW4]; exact pw_below_drewN (pw_below_drewN HB2.out _) _))
      have HC5d := Aside0.mk (show Kd.C (Kd.int .u8) W4 A5 B1.length B1 from (by rw [hW4]; exact Kd.C_drewN (Kd.C_drewN HC5b.out _) _))
      have HC6d := Aside0.mk (show Kd.C (Kd.int .u8) W4 A6 B2.length B2 from (by rw [hW4]; exact Kd.C_drewN (Kd.C_drewN HC6.out _) _))
      clear hW3 hW4
      have e5 : decide ((B1.length : Int) < 5) = false := decide_eq_false (by have := HLE.out; omega)
      have e6 : decide ((B2.length : Int) < 5) = false := decide_eq_false (by have := HLE.out; omega)
      have e7 : decide (B1.length < 5) = false := decide_eq_false (by have := HLE.out; omega)
      have e8 : decide (B2.length < 5) = false := decide_eq_false (by have := HLE.out; omega)
      have e9 : ¬ B1.length < 5 := by have := HLE.out; omega
      have e10 : ¬ B2.length < 5 := by have := HLE.out; omega
      go_wp2_with fail
      have H1 := Aside0.mk (fun (w' : World) (h : Below W4.heap.size W4 w') => marquetrylaw13_head.calls 200 A5 c5 B1 N1 w' (Kd.C_below HC5d.out h) HC5c.out HH1.out)
      have H2 := Aside0.mk (fun (w' : World) (h : Below W4.heap.size W4 w') => marquetrylaw13_head.calls 200 A6 c6 B2 N2 w' (Kd.C_below HC6d.out h) HC6c.out HH2.out)
      obtain ⟨i0, hi0, _, hsz, _⟩ := info_parts info5
      obtain ⟨D1, hcut1, hDd1, hE1⟩ := print_drop_of (P := Try.prog) (Value.int .u8) 0 25 5 .i64 Try.underlying25 hi0 hsz A5 c5 B1 N1 (by omega) (by have := HLE.out; omega) HC5c.out
      obtain ⟨D2, hcut2, hDd2, hE2⟩ := print_drop_of (P := Try.prog) (Value.int .u8) 0 25 5 .i64 Try.underlying25 hi0 hsz A6 c6 B2 N2 (by omega) (by have := HLE.out; omega) HC6c.out
      rw [Int.toNat_natCast] at hcut1 hDd1 hE1 hcut2 hDd2 hE2
      obtain ⟨htk1, hTd1, hT1⟩ := print_take_of (P := Try.prog) (Value.int .u8) 0 25 5 .i64 Try.underlying25 hi0 hsz A5 c5 B1 4 (by omega) (by have := HLE.out; omega) HC5c.out
      obtain ⟨htk2, hTd2, hT2⟩ := print_take_of (P := Try.prog) (Value.int .u8) 0 25 5 .i64 Try.underlying25 hi0 hsz A6 c6 B2 4 (by omega) (by have := HLE.out; omega) HC6c.out
      rw [show (4 : Int).toNat = 4 from rfl] at htk1 hTd1 hT1 htk2 hTd2 hT2
      have HX1 := Aside0.mk (fun (w' : World) (h : Below W4.heap.size W4 w') => (Kd.C_of_reads (h1 := fun _ => rfl) (hDd1 _ (Kd.reads_of_C (Kd.C_below HC5d.out h))) : Kd.C (Kd.int .u8) w' D1 (B1.drop N1).length (B1.drop N1)))
      have HX2 := Aside0.mk (fun (w' : World) (h : Below W4.heap.size W4 w') => (Kd.C_of_reads (h1 := fun _ => rfl) (hDd2 _ (Kd.reads_of_C (Kd.C_below HC6d.out h))) : Kd.C (Kd.int .u8) w' D2 (B2.drop N2).length (B2.drop N2)))
      have HX3 := Aside0.mk (fun (w' : World) (h : Below W4.heap.size W4 w') => (Kd.C_of_reads (h1 := fun _ => rfl) (hTd1 _ (Kd.reads_of_C (Kd.C_below HC5d.out h))) : Kd.C (Kd.int .u8) w' A5 (B1.take 4).length (B1.take 4)))
      have HX4 := Aside0.mk (fun (w' : World) (h : Below W4.heap.size W4 w') => (Kd.C_of_reads (h1 := fun _ => rfl) (hTd2 _ (Kd.reads_of_C (Kd.C_below HC6d.out h))) : Kd.C (Kd.int .u8) w' A6 (B2.take 4).length (B2.take 4)))
      obtain ⟨P1, hP1⟩ : ∃ P1, P1 = B1.drop N1 := ⟨_, rfl⟩
      obtain ⟨P2, hP2⟩ : ∃ P2, P2 = B2.drop N2 := ⟨_, rfl⟩
      obtain ⟨P3, hP3⟩ : ∃ P3, P3 = B1.take 4 := ⟨_, rfl⟩
      obtain ⟨P4, hP4⟩ : ∃ P4, P4 = B2.take 4 := ⟨_, rfl⟩
      rw [← hP1] at hcut1 HX1 HEQ
      rw [← hP2] at hcut2 HX2 HEQ
      rw [← hP3] at htk1 HX3 HEQ
      rw [← hP4] at htk2 HX4 HEQ
      obtain ⟨E1, hE1'⟩ : ∃ E1, E1 = c5 - N1 := ⟨_, rfl⟩
      obtain ⟨E2, hE2'⟩ : ∃ E2, E2 = c6 - N2 := ⟨_, rfl⟩
      rw [← hE1'] at hcut1
      rw [← hE2'] at hcut2
      have hBr : Below W4.heap.size W4 W4 := Below.refl _ _
      have HTK1 := Aside0.mk htk1
      have HTK2 := Aside0.mk htk2
      clear hDd1 hE1 hDd2 hE2 hTd1 hT1 hTd2 hT2 hP1 hP2 hP3 hP4 hE1' hE2' hi0 hsz e5 e6 e7 e8 e9 e10 htk1 htk2
      refine wp_region_held_drew (S := fun w' => Below W4.heap.size W4 w') (by kernel_rfl) (below_drew1 hBr) (fun hHeld => ?_)
      refine wpAnyH_take (i := 0) (oi := { dst := some 76, op := Op.move (Operand.tmp 8), type := 25, pos := "law.go:159", after := #[], guard := none }) (v := .slice A5 B1.length c5) rfl (by kernel_rfl) (by kernel_rfl) (by kernel_rfl) (fun _ _ _ h => h) (Or.inl ⟨by rfl, ?_⟩) (by assumption) ?_
      · (intro w hSw; (try dsimp only at hSw); go_simp)
      try simp only [Act.put, List.setIfInBounds_toArray, List.set_cons_zero, List.set_cons_succ]
      refine wpAnyH_take (i := 1) (oi := { dst := some 77, op := Op.move (Operand.tmp 8), type := 25, pos := "law.go:159", after := #[], guard := none }) (v := .slice A5 B1.length c5) rfl (by kernel_rfl) (by kernel_rfl) (by kernel_rfl) (fun _ _ _ h => h) (Or.inl ⟨by rfl, ?_⟩) (by assumption) ?_
      · (intro w hSw; (try dsimp only at hSw); go_simp)
      try simp only [Act.put, List.setIfInBounds_toArray, List.set_cons_zero, List.set_cons_succ]
      refine wpAnyH_take (i := 4) (oi := { dst := some 80, op := Op.move (Operand.tmp 10), type := 25, pos := "law.go:159", after := #[], guard := none }) (v := .slice A6 B2.length c6) rfl (by kernel_rfl) (by kernel_rfl) (by kernel_rfl) (fun _ _ _ h => h) (Or.inl ⟨by rfl, ?_⟩) (by assumption) ?_
      · (intro w hSw; (try dsimp only at hSw); go_simp)
      try simp only [Act.put, List.setIfInBounds_toArray, List.set_cons_zero, List.set_cons_succ]
      refine wpAnyH_take (i := 5) (oi := { dst := some 81, op := Op.move (Operand.tmp 10), type := 25, pos := "law.go:159", after := #[], guard := none }) (v := .slice A6 B2.length c6) rfl (by kernel_rfl) (by kernel_rfl) (by kernel_rfl) (fun _ _ _ h => h) (Or.inl ⟨by rfl, ?_⟩) (by assumption) ?_
      · (intro w hSw; (try dsimp only at hSw); go_simp)
      try simp only [Act.put, List.setIfInBounds_toArray, List.set_cons_zero, List.set_cons_succ]
      refine wpAnyH_ready (rs := [2]) (by kernel_rfl) (by simp) ?_
      refine AllReadyH.cons (o := { dst := some 78, op := Op.call { callee := Callee.value (Operand.func 28), args := #[Operand.tmp 77], argTypes := #[25] }, type := 3, pos := "law.go:159", after := #[{ on := 1, ground := Ground.data }], guard := none }) rfl (fun K hK => ?_) ?_
      · go_simp
        go_at_call 28
        refine (H1.out _ (by repeat (first | exact hBr | apply pw_below_drewN | apply below_drew1))).mono ?_
        rintro e Wy ⟨rfl, ⟨nd2, rfl⟩⟩
        refine hK.out _ _ (by repeat (first | exact hBr | apply pw_below_drewN | apply below_drew1)) (fun hHeld2 => ?_)
        clear hK K hHeld
        have hHeld := hHeld2
        clear hHeld2
        try simp only [Act.put, List.setIfInBounds_toArray, List.set_cons_zero, List.set_cons_succ]
        refine wpAnyH_take (i := 3) (oi := { dst := some 79, op := Op.slice 25 (Operand.tmp 76) (some (Operand.tmp 78)) none none, type := 25, pos := "law.go:159", after := #[{ on := 0, ground := Ground.data }, { on := 2, ground := Ground.data }], guard := none }) (v := .slice D1 P1.length E1) rfl (by kernel_rfl) (by kernel_rfl) (by kernel_rfl) (fun _ _ _ h => h) (Or.inl ⟨by rfl, ?_⟩) (by assumption) ?_
        · (intro w hSw; (try dsimp only at hSw); go_simp)
        try simp only [Act.put, List.setIfInBounds_toArray, List.set_cons_zero, List.set_cons_succ]
        refine wpAnyH_ready (rs := [6]) (by kernel_rfl) (by simp) ?_
        refine AllReadyH.cons (o := { dst := some 82, op := Op.call { callee := Callee.value (Operand.func 28), args := #[Operand.tmp 81], argTypes := #[25] }, type := 3, pos := "law.go:159", after := #[{ on := 5, ground := Ground.data }, { on := 2, ground := Ground.chain }], guard := none }) rfl (fun K hK => ?_) ?_
        · go_simp
          go_at_call 28
          refine (H2.out _ (by repeat (first | exact hBr | apply pw_below_drewN | apply below_drew1))).mono ?_
          rintro e Wy ⟨rfl, ⟨nd3, rfl⟩⟩
          refine hK.out _ _ (by repeat (first | exact hBr | apply pw_below_drewN | apply below_drew1)) (fun hHeld2 => ?_)
          clear hK K hHeld
          have hHeld := hHeld2
          clear hHeld2
          try simp only [Act.put, List.setIfInBounds_toArray, List.set_cons_zero, List.set_cons_succ]
          refine wpAnyH_take (i := 7) (oi := { dst := some 83, op := Op.slice 25 (Operand.tmp 80) (some (Operand.tmp 82)) none none, type := 25, pos := "law.go:159", after := #[{ on := 4, ground := Ground.data }, { on := 6, ground := Ground.data }], guard := none }) (v := .slice D2 P2.length E2) rfl (by kernel_rfl) (by kernel_rfl) (by kernel_rfl) (fun _ _ _ h => h) (Or.inl ⟨by rfl, ?_⟩) (by assumption) ?_
          · (intro w hSw; (try dsimp only at hSw); go_simp)
          try simp only [Act.put, List.setIfInBounds_toArray, List.set_cons_zero, List.set_cons_succ]
          refine wpAnyH_ready (rs := [8]) (by kernel_rfl) (by simp) ?_
          refine AllReadyH.cons (o := { dst := some 12, op := Op.assign (Operand.tmp 79), type := 25, pos := "law.go:159", after := #[{ on := 3, ground := Ground.data }, { on := 6, ground := Ground.chain }, { on := 0, ground := Ground.phase }, { on := 1, ground := Ground.phase }, { on := 2, ground := Ground.phase }, { on := 3, ground := Ground.phase }, { on := 4, ground := Ground.textOnly Departure.lateStores }, { on := 5, ground := Ground.textOnly Departure.lateStores }, { on := 6, ground := Ground.textOnly Departure.lateStoresUnsure }, { on := 7, ground := Ground.textOnly Departure.lateStoresUnsure }], guard := none }) rfl (fun K hK => ?_) ?_
          · go_simp
            refine hK.out _ _ (by repeat (first | exact hBr | apply pw_below_drewN | apply below_drew1)) (fun hHeld2 => ?_)
            clear hK K hHeld
            have hHeld := hHeld2
            clear hHeld2
            try simp only [Act.put, List.setIfInBounds_toArray, List.set_cons_zero, List.set_cons_succ]
            refine wpAnyH_ready (rs := [9]) (by kernel_rfl) (by simp) ?_
            refine AllReadyH.cons (o := { dst := some 13, op := Op.assign (Operand.tmp 83), type := 25, pos := "law.go:159", after := #[{ on := 7, ground := Ground.data }, { on := 8, ground := Ground.chain }, { on := 0, ground := Ground.phase }, { on := 1, ground := Ground.phase }, { on := 2, ground := Ground.phase }, { on := 3, ground := Ground.phase }, { on := 4, ground := Ground.phase }, { on := 5, ground := Ground.phase }, { on := 6, ground := Ground.phase }, { on := 7, ground := Ground.phase }, { on := 8, ground := Ground.phase }], guard := none }) rfl (fun K hK => ?_) ?_
            · go_simp
              refine hK.out _ _ (by repeat (first | exact hBr | apply pw_below_drewN | apply below_drew1)) (fun hHeld2 => ?_)
              clear hK K hHeld
              have hHeld := hHeld2
              clear hHeld2
              try simp only [Act.put, List.setIfInBounds_toArray, List.set_cons_zero, List.set_cons_succ]
              refine wpAnyH_done (by kernel_rfl) ?_ _
              go_wp2_with fail
              refine wp_namedW fun W6 hW6 => ?_
              have hB46 : Below W4.heap.size W4 W6 := by rw [hW6]; repeat (first | exact hBr | apply pw_below_drewN | apply below_drew1)
              have HB6 := Aside0.mk (HB4.out.trans (hB46.mono HB4.out.size))
              have htk1 := HTK1.out
              have htk2 := HTK2.out
              have cv1 : ∀ w', Below W6.heap.size W6 w' → (convert 25 9 (.slice D1 P1.length E1)).run Try.prog w' = .ok (.string (strOfNums P1)) w' := fun w' h => Kd.C_string Try.underlying25 Try.underlying5 Try.underlying9 (HX1.out w' (hB46.trans (h.mono hB46.size)))
              have cv2 : ∀ w', Below W6.heap.size W6 w' → (convert 25 9 (.slice D2 P2.length E2)).run Try.prog w' = .ok (.string (strOfNums P2)) w' := fun w' h => Kd.C_string Try.underlying25 Try.underlying5 Try.underlying9 (HX2.out w' (hB46.trans (h.mono hB46.size)))
              have cv3 : ∀ w', Below W6.heap.size W6 w' → (convert 25 9 (.slice A5 P3.length c5)).run Try.prog w' = .ok (.string (strOfNums P3)) w' := fun w' h => Kd.C_string Try.underlying25 Try.underlying5 Try.underlying9 (HX3.out w' (hB46.trans (h.mono hB46.size)))
              have cv4 : ∀ w', Below W6.heap.size W6 w' → (convert 25 9 (.slice A6 P4.length c6)).run Try.prog w' = .ok (.string (strOfNums P4)) w' := fun w' h => Kd.C_string Try.underlying25 Try.underlying5 Try.underlying9 (HX4.out w' (hB46.trans (h.mono hB46.size)))
              have hs1 : (strOfNums P1).toList = (strOfNums P2).toList := by rw [HEQ.out.1]
              have hs2 : (strOfNums P3).toList = (strOfNums P4).toList := by rw [HEQ.out.2]
              have WT := Aside0.mk works_true
              clear hB46 hW6 hHeld hBr
              have hBr : Below W6.heap.size W6 W6 := Below.refl _ _
              clear hcut1 hcut2 hwy h1b hz q1 q2
              go_region_held3 (fun w' => Below W6.heap.size W6 w') (first | (repeat (first | exact hBr | exact hBr2 | apply below_drew1 | apply pw_below_drewN)))
                (first | (go_at_call 11; refine (WT.out _).mono ?_; rintro e Wz ⟨rfl, hbz⟩; have hBr2 : Below W6.heap.size W6 Wz := below_step (w := W6) (below_drew1 hBr) hbz))
              go_wp2
              go_ret
              exact ⟨rfl, HB6.out.trans (hBr2.mono HB6.out.size)⟩
            exact AllReadyH.nil
          exact AllReadyH.nil
        exact AllReadyH.nil
      exact AllReadyH.nil
theorem gm_long (A : Option Addr) (c : Nat) (l : List Int) (y : Int) (w : World) (hc : l.length ≤ c) (hl : 1000 < l.length) :
    Calls Try.prog 10 #[.slice A l.length c, .int .i32 y] w fun e w' => e = .returned (.bool true) ∧ Below w.heap.size w w' := by
  have h1b : decide ((l.length : Int) > 1000) = true := decide_eq_true (by omega)
  clear hl
  go_enter Try.func10, Try.ntmps10
  go_wp2_with fail
  refine (works_true _).mono ?_
  rintro e W3 ⟨rfl, hb3⟩
  have HB3 := Aside0.mk hb3
  clear hb3
  go_wp2
  go_ret
  exact ⟨rfl, HB3.out⟩
theorem gm_nil (A : Option Addr) (c : Nat) (y : Int) (w : World) :
    Calls Try.prog 10 #[.slice A 0 c, .int .i32 y] w fun e w' => e = .returned (.bool true) ∧ Below w.heap.size w w' := by
  go_enter Try.func10, Try.ntmps10
  go_wp2_with fail
  refine (works_true _).mono ?_
  rintro e W3 ⟨rfl, hb3⟩
  have HB3 := Aside0.mk hb3
  clear hb3
  go_wp2
  go_ret
  exact ⟨rfl, HB3.out⟩
theorem gm_all (A : Option Addr) (c : Nat) (l : List Int) (y : Int) (w : World) (hC : Kd.C (Kd.int .i32) w A l.length l) (hc : l.length ≤ c) (hx : ∀ x ∈ l, -2147483648 ≤ x ∧ x ≤ 2147483647) (hy : -2147483648 ≤ y ∧ y ≤ 2147483647) :
    Calls Try.prog 10 #[.slice A l.length c, .int .i32 y] w fun e w' => e = .returned (.bool true) ∧ Below w.heap.size w w' := by
  by_cases h1 : 1000 < l.length
  · exact gm_long A c l y w hc h1
  · by_cases h0 : l.length = 0
    · rw [h0]; exact gm_nil A c y w
    · exact gm_main A c l y w hC hc (by omega) (by omega) hx hy
end Go.Proofs.Ytbncfhmfohpfbaa.X
end

section
namespace Go.Proofs.Ytbncfhmfohpfbaa.X
open Go.RowKit Go.Proofs.YtbncfhmfohpfbaaW.PrintWords Go.Proofs.YtbncfhmfohpfbaaW.PrintLast Go.Proofs.YtbncfhmfohpfbaaW.PrintMore
attribute [local go_sem] max2_int min2_int max_two min_two max_three min_three max_four min_four
set_option linter.unusedVariables false
set_option linter.unusedSimpArgs false
def i32P (l : List Int) (y : Int) : Prop := (∀ x ∈ l, -2147483648 ≤ x ∧ x ≤ 2147483647) ∧ -2147483648 ≤ y ∧ y ≤ 2147483647
instance (l : List Int) (y : Int) : Decidable (i32P l y) := by unfold i32P; infer_instance
def marquetrylaw13_DeltaMoved.f (l0 : List Int) (a1 : Int) : Option Bool := if i32P l0 a1 then some true else none
theorem marquetrylaw13_DeltaMoved.calls (A0 : Option Addr) (c0 : Nat) (l0 : List Int) (a1 : Int) (r : Bool) (w : World) (hr0 : Kd.C (Kd.int .i32) w A0 l0.length l0) (hc0 : l0.length ≤ c0) (h : marquetrylaw13_DeltaMoved.f l0 a1 = some r) :
    Calls Try.prog 10 #[.slice A0 l0.length c0, .int .i32 a1] w fun e w' => e = .returned (.bool r) ∧ Below w.heap.size w w' := by
  unfold marquetrylaw13_DeltaMoved.f at h
  by_cases hu : i32P l0 a1
  · rw [if_pos hu] at h
    obtain rfl := Option.some.inj h
    exact gm_all A0 c0 l0 a1 w hr0 hc0 hu.1 hu.2
  · rw [if_neg hu] at h; cases h
def marquetrylaw13_DeltaMoved.Pure : Prop := ∀ (l0 : List Int) (a1 : Int), ((∀ x_ ∈ l0, (Lit.int .i32 x_).wf = true) ∧ l0.length ≤ maxLen ∧ l0.length * 4 ≤ 140737488351232) → (Lit.int .i32 a1).wf = true → marquetrylaw13_DeltaMoved.f l0 a1 = some true
end Go.Proofs.Ytbncfhmfohpfbaa.X
end

section
namespace Go.Proofs.Ytbncfhmfohpfbaa.Rd
open Go.ChangeShapes Go.WideShapes Go.Deep Go.RowKit Go.Joins Go.Proofs.YtbncfhmfohpfbaaW.PrintWords
structure Opens (P : Program) (t : TypeId) {α : Type} (d : Kd α) (Wf : α → Prop) : Prop where
  opens : ∀ {H : Type} {enc : TypeId × Value → H} {w : World} {base : Nat} {spare : Nat → Bool} {held : Bool} {n : Nat} {cs : List Value} {y : DataW H × List MemPlace},
    DataW.trod enc P w base spare held n t cs = some y → (∀ m ∈ y.1.weights P t, m ≤ reachBytes) → ∃ x, d.K w x cs ∧ Wf x
theorem reach_le {m : Nat} (h : m ≤ reachBytes) : m ≤ 140737488351232 := h
theorem opens_int {P : Program} {t : TypeId} {k : IntKind} (hu : P.underlying t = some (.int k)) : Opens P t (Kd.int k) (fun x => (Lit.int k x).wf = true) := by
  refine ⟨fun {H enc w base spare held n cs y} h _ => ?_⟩
  obtain ⟨x, rfl, _, hw⟩ := DataW.trod_int hu h
  exact ⟨x, rfl, hw⟩
theorem list_of {α : Type} {p : Nat → α → Prop} : ∀ (n : Nat), (∀ i, i < n → ∃ x, p i x) → ∃ xs : List α, xs.length = n ∧ ∀ i x, xs[i]? = some x → p i x
  | 0, _ => ⟨[], rfl, fun i x h => by simp at h⟩
  | n + 1, h => by
    obtain ⟨xs, hl, hx⟩ := list_of n (fun i hi => h i (by omega))
    obtain ⟨x, hp⟩ := h n (by omega)
    refine ⟨xs ++ [x], by simp [hl], fun i y hy => ?_⟩
    rcases Nat.lt_or_ge i xs.length with hi | hi
    · rw [List.getElem?_append_left hi] at hy; exact hx i y hy
    · have hi' : i = xs.length := by
        have := (List.getElem?_eq_some_iff.1 hy).1
        simp at this; omega
      subst hi'
      have : x = y := by simpa using hy
      subst this
      rw [hl]; exact hp
theorem weights_all {H : Type} {P : Program} {e : TypeId} : ∀ (ds : List (DataW H)) (d : DataW H), d ∈ ds → ∀ m ∈ d.weights P e, m ∈ DataW.weightsAll P e ds
  | [], d, h, _, _ => by simp at h
  | d0 :: ds, d, h, m, hm => by
    simp only [DataW.weightsAll, List.mem_append]
    rcases List.mem_cons.1 h with rfl | h
    · exact .inl hm
    · exact .inr (weights_all ds d h m hm)
theorem opens_slice {P : Program} {t e : TypeId} {α : Type} {d : Kd α} {Wf : α → Prop} {B : Nat} (hu : P.underlying t = some (.slice e)) (hsz : P.cellsOf e = d.sz) (hB : P.bytesOf e = B) (ho : Opens P e d Wf) :
    Opens P t (Kd.slice e d) (fun xs => (∀ x ∈ xs, Wf x) ∧ xs.length ≤ maxLen ∧ xs.length * B ≤ 140737488351232) := by
  refine ⟨fun {H enc w base spare held n cs y} h hw => ?_⟩
  rcases open_slice hu h with ⟨rfl, _⟩ | ⟨a, len, cap, m, n', D, Pl, rfl, hb, hl, hm, hmm, rfl, hx⟩
  · exact ⟨[], ⟨none, 0, rfl, Nat.le_refl _, rfl, Nat.zero_le _, fun h => absurd h (by simp)⟩, by simp⟩
  · have hlm : len ≤ m := by rw [hmm]; split <;> omega
    have hsize : len * B ≤ 140737488351232 := by
      have := hw ((((List.range len).map D).length + ((List.range (m - len)).map fun j => D (len + j)).length) * P.bytesOf e) (by simp [DataW.weights, hu])
      rw [hB] at this
      refine Nat.le_trans (Nat.mul_le_mul_right _ ?_) (reach_le this)
      simp
    obtain ⟨xs, hxl, hxs⟩ := list_of (p := fun i x => ∃ cs', w.cells? base (a.add (i * P.cellsOf e)) (P.cellsOf e) = some cs' ∧ d.K w x cs' ∧ Wf x) len (fun i hi => by
      obtain ⟨cs', h1, h2⟩ := hx i (by omega)
      obtain ⟨x, hk, hwf⟩ := ho.opens h2 (fun q hq => hw q (by
        simp only [DataW.weights, hu, List.mem_cons, List.mem_append]
        exact .inr (.inl (weights_all _ (D i) (List.mem_map.2 ⟨i, List.mem_range.2 hi, rfl⟩) q hq))))
      exact ⟨x, cs', h1, hk, hwf⟩)
    subst hxl
    refine ⟨xs, ⟨some a, cap, rfl, hl, rfl, ?_, fun _ => ⟨a, rfl, fun j p hp => ?_⟩⟩, ⟨fun x hx' => ?_, Nat.le_trans hl hm, hsize⟩⟩
    · unfold maxLen at hm; omega
    · obtain ⟨cs', h1, hk, _⟩ := hxs j p hp
      obtain ⟨_, hcl, hcc⟩ := World.cells?_some h1
      refine ⟨cs', by rw [hcl, hsz], hk, fun i u hiu => ?_⟩
      have hi : i < P.cellsOf e := by rw [← hcl]; exact (List.getElem?_eq_some_iff.1 hiu).1
      rw [← hsz, ← Go.Deep.add_add, hcc i hi]
      exact hiu
    · obtain ⟨i, hi⟩ := List.getElem?_of_mem hx'
      exact (hxs i x hi).choose_spec.2.2
theorem one_of {P : Program} {fs : Array Field} (hone : oneCellFields P fs = true) {j : Nat} {f : Field} (h : fs.toList[j]? = some f) : f.offset = j ∧ P.cellsOf f.type = 1 := hone_of hone j f (by simpa using h)
theorem opens_arg {P : Program} {t : TypeId} {α : Type} {d : Kd α} {Wf : α → Prop} (ho : Opens P t d Wf) {H : Type} {enc : TypeId × Value → H} {w : World} {base : Nat} {spare : Nat → Bool} {held : Bool} {v : Value} {dt : DataW H} {p : List MemPlace}
    (h : DataW.Trod enc P w base spare held t v dt p) {ts : List TypeId} {ds : List (DataW H)} {j : Nat} (hsz : (DataW.weightsEach P ts ds).all (· ≤ reachBytes) = true) (ht : ts[j]? = some t) (hd : ds[j]? = some dt) : ∃ x, d.K w x v.cells.toList ∧ Wf x := by
  obtain ⟨n, hn⟩ := h
  refine ho.opens hn (fun m hm => ?_)
  have := List.all_eq_true.1 hsz m (DataW.weights_mem_each ht hd m hm)
  simpa using this
end Go.Proofs.Ytbncfhmfohpfbaa.Rd
end
