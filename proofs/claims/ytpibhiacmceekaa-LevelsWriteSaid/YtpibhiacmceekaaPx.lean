/- Plain facts on bits in line and the bytes that hold them, the lowest bit first. No program in sight. -/
import Derived.Test.YtpibhiacmceekaaNx
namespace Go.Proofs.Ytpibhiacmceekaa.Px
set_option linter.unusedVariables false
set_option linter.unusedSimpArgs false
open Go.RowKit Go.Proofs.Ytpibhiacmceekaa.Bx Go.Proofs.Ytpibhiacmceekaa.Nx

/-- The bits of a number from a place on, so many. -/
def bitsFrom (n : Int) : Nat → Nat → List Int
  | _, 0 => []
  | i, d + 1 => n / 2 ^ i % 2 :: bitsFrom n (i + 1) d
theorem bitsFrom_length (n : Int) : ∀ d i, (bitsFrom n i d).length = d
  | 0, _ => rfl
  | d + 1, i => by simp [bitsFrom, bitsFrom_length n d]
theorem bitsFrom_range (n : Int) : ∀ d i, ∀ b ∈ bitsFrom n i d, b = 0 ∨ b = 1
  | 0, _, b, h => by simp [bitsFrom] at h
  | d + 1, i, b, h => by
    simp only [bitsFrom, List.mem_cons] at h
    rcases h with rfl | h
    · omega
    · exact bitsFrom_range n d _ b h
def allBits (w : Nat) (l : List Int) : List Int := l.flatMap fun x => bitsFrom x 0 w
theorem allBits_cons (w : Nat) (x : Int) (l : List Int) : allBits w (x :: l) = bitsFrom x 0 w ++ allBits w l := by simp [allBits]
theorem allBits_length (w : Nat) : ∀ l, (allBits w l).length = l.length * w
  | [] => by simp [allBits]
  | x :: l => by rw [allBits_cons, List.length_append, bitsFrom_length, allBits_length w l, List.length_cons, Nat.add_mul]; omega
theorem allBits_range (w : Nat) (l : List Int) : ∀ b ∈ allBits w l, b = 0 ∨ b = 1 := by
  intro b h
  obtain ⟨x, _, hx⟩ := List.mem_flatMap.1 h
  exact bitsFrom_range x w 0 b hx

/-- The j-th byte of bits in line. -/
def byteAt (B : List Int) (j : Nat) : Int :=
  B.getD (8 * j) 0 + 2 * B.getD (8 * j + 1) 0 + 4 * B.getD (8 * j + 2) 0 + 8 * B.getD (8 * j + 3) 0 + 16 * B.getD (8 * j + 4) 0 + 32 * B.getD (8 * j + 5) 0 + 64 * B.getD (8 * j + 6) 0 + 128 * B.getD (8 * j + 7) 0
/-- The bytes of bits in line. -/
def packB (B : List Int) : List Int := (List.range ((B.length + 7) / 8)).map (byteAt B)
theorem packB_length (B : List Int) : (packB B).length = (B.length + 7) / 8 := by simp [packB]
theorem getD_snoc (B : List Int) (b : Int) (m : Nat) : (B ++ [b]).getD m 0 = if m = B.length then b else B.getD m 0 := by
  simp only [List.getD_eq_getElem?_getD]
  by_cases h : m = B.length
  · subst h; simp
  · rw [if_neg h]
    rcases Nat.lt_or_ge m B.length with h1 | h1
    · rw [List.getElem?_append_left h1]
    · rw [List.getElem?_append_right h1, List.getElem?_eq_none (by simp; omega), List.getElem?_eq_none h1]
theorem getD_out (B : List Int) {m : Nat} (h : B.length ≤ m) : B.getD m 0 = 0 := by
  rw [List.getD_eq_getElem?_getD, List.getElem?_eq_none h]; rfl
theorem getD_bit {B : List Int} (hB : ∀ b ∈ B, b = 0 ∨ b = 1) (m : Nat) : B.getD m 0 = 0 ∨ B.getD m 0 = 1 := by
  rw [List.getD_eq_getElem?_getD]
  by_cases h : m < B.length
  · rw [List.getElem?_eq_getElem h]; exact hB _ (List.getElem_mem h)
  · rw [List.getElem?_eq_none (by omega)]; exact .inl rfl
theorem byteAt_snoc (B : List Int) (b : Int) (j : Nat) : byteAt (B ++ [b]) j = byteAt B j + if j = B.length / 8 then b * 2 ^ (B.length % 8) else 0 := by
  unfold byteAt
  simp only [getD_snoc]
  by_cases h : j = B.length / 8
  · rw [if_pos h]
    have q : ∀ t, (8 * j + t = B.length) = (t = B.length % 8) := fun t => propext (by omega)
    have q0 : (8 * j = B.length) = (0 = B.length % 8) := propext (by omega)
    have o := fun m => getD_out B (m := m)
    have o0 := o (8 * j); have o1 := o (8 * j + 1); have o2 := o (8 * j + 2); have o3 := o (8 * j + 3); have o4 := o (8 * j + 4); have o5 := o (8 * j + 5); have o6 := o (8 * j + 6); have o7 := o (8 * j + 7)
    have hr : B.length % 8 = 0 ∨ B.length % 8 = 1 ∨ B.length % 8 = 2 ∨ B.length % 8 = 3 ∨ B.length % 8 = 4 ∨ B.length % 8 = 5 ∨ B.length % 8 = 6 ∨ B.length % 8 = 7 := by omega
    simp only [q, q0]
    rcases hr with e | e | e | e | e | e | e | e <;> rw [e] <;> simp (config := { decide := true }) only [if_true, if_false, Int.reducePow, Int.pow_zero] <;> omega
  · rw [if_neg h]
    have : ∀ t, t < 8 → 8 * j + t ≠ B.length := by omega
    rw [if_neg (by simpa using this 0 (by omega)), if_neg (this 1 (by omega)), if_neg (this 2 (by omega)), if_neg (this 3 (by omega)), if_neg (this 4 (by omega)), if_neg (this 5 (by omega)), if_neg (this 6 (by omega)), if_neg (this 7 (by omega))]
    omega
theorem byteAt_range {B : List Int} (hB : ∀ b ∈ B, b = 0 ∨ b = 1) (j : Nat) : 0 ≤ byteAt B j ∧ byteAt B j ≤ 255 := by
  unfold byteAt
  have g := getD_bit hB
  have g0 := g (8 * j); have g1 := g (8 * j + 1); have g2 := g (8 * j + 2); have g3 := g (8 * j + 3); have g4 := g (8 * j + 4); have g5 := g (8 * j + 5); have g6 := g (8 * j + 6); have g7 := g (8 * j + 7)
  omega
theorem byteAt_last {B : List Int} (hB : ∀ b ∈ B, b = 0 ∨ b = 1) : byteAt B (B.length / 8) < 2 ^ (B.length % 8) := by
  unfold byteAt
  have g := getD_bit hB
  have o := fun m => getD_out B (m := m)
  generalize hj : B.length / 8 = j
  have g0 := g (8 * j); have g1 := g (8 * j + 1); have g2 := g (8 * j + 2); have g3 := g (8 * j + 3); have g4 := g (8 * j + 4); have g5 := g (8 * j + 5); have g6 := g (8 * j + 6); have g7 := g (8 * j + 7)
  have o0 := o (8 * j); have o1 := o (8 * j + 1); have o2 := o (8 * j + 2); have o3 := o (8 * j + 3); have o4 := o (8 * j + 4); have o5 := o (8 * j + 5); have o6 := o (8 * j + 6); have o7 := o (8 * j + 7)
  have hr : B.length % 8 = 0 ∨ B.length % 8 = 1 ∨ B.length % 8 = 2 ∨ B.length % 8 = 3 ∨ B.length % 8 = 4 ∨ B.length % 8 = 5 ∨ B.length % 8 = 6 ∨ B.length % 8 = 7 := by omega
  rcases hr with e | e | e | e | e | e | e | e <;> rw [e] <;> simp only [Int.reducePow, Int.pow_zero] <;> omega
theorem byteAt_out (B : List Int) {j : Nat} (h : B.length ≤ 8 * j) : byteAt B j = 0 := by
  unfold byteAt
  rw [getD_out B (by omega), getD_out B (by omega), getD_out B (by omega), getD_out B (by omega), getD_out B (by omega), getD_out B (by omega), getD_out B (by omega), getD_out B (by omega)]; rfl
theorem packB_range {B : List Int} (hB : ∀ b ∈ B, b = 0 ∨ b = 1) : ∀ x ∈ packB B, 0 ≤ x ∧ x ≤ 255 := by
  intro x hx
  obtain ⟨j, _, rfl⟩ := List.mem_map.1 hx
  exact byteAt_range hB j

/-- One bit more, in bytes that hold all so far (and zeros behind). -/
theorem map_set (B : List Int) (b : Int) (n : Nat) (h : B.length / 8 < n) :
    ((List.range n).map (byteAt B)).set (B.length / 8) (byteAt B (B.length / 8) + b * 2 ^ (B.length % 8)) = (List.range n).map (byteAt (B ++ [b])) := by
  apply List.ext_getElem?
  intro j
  rw [List.getElem?_set]
  by_cases e : B.length / 8 = j
  · subst e
    simp [h, byteAt_snoc]
  · rw [if_neg e]
    simp only [List.getElem?_map]
    rcases Nat.lt_or_ge j n with hj | hj
    · rw [List.getElem?_range hj]
      simp only [Option.map_some, byteAt_snoc]; rw [if_neg (fun h : j = B.length / 8 => e h.symm)]; simp
    · rw [List.getElem?_eq_none (by simpa using hj)]; rfl
theorem map_same (B : List Int) (n : Nat) : (List.range n).map (byteAt (B ++ [0])) = (List.range n).map (byteAt B) := by
  apply List.map_congr_left
  intro j _
  rw [byteAt_snoc]; split <;> omega
theorem packB_zero (n : Nat) : (List.range n).map (byteAt []) = List.replicate n 0 := by
  apply List.ext_getElem?
  intro j
  simp only [List.getElem?_map]
  rcases Nat.lt_or_ge j n with hj | hj
  · rw [List.getElem?_range hj]; simp [hj, byteAt]
  · rw [List.getElem?_eq_none (by simpa using hj)]; simp [hj]
end Go.Proofs.Ytpibhiacmceekaa.Px
