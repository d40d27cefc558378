/- Written by a program of this session (wip/xprint.py) with the kit's printer: Go functions as Lean functions, and that the code comes to their answers. -/
import Derived.Test.YtgdlbfkblopoeaaX0
import Derived.Test.YtgdlbfkblopoeaaHx
namespace Go.Proofs.Ytgdlbfkblopoeaa.X
open Go.RowKit Go.Proofs.YtgdlbfkblopoeaaW.PrintWords Go.Proofs.YtgdlbfkblopoeaaW.PrintLast Go.Proofs.YtgdlbfkblopoeaaW.PrintMore
attribute [local go_sem] max2_int min2_int max_two min_two max_three min_three max_four min_four   -- for this text's walks alone
set_option linter.unusedVariables false
set_option linter.unusedSimpArgs false

/-! ### bits_ReadVarint: function 31 (by hand): a closure that holds the place is called in a loop -/
set_option maxHeartbeats 400000 in
theorem rv_next_no (w : World) (g0 g1 : Nat) (A : Option Addr) (n c : Nat) (a : Int) (hb : w.cell? ⟨g0, 0, none⟩ = some (.slice A n c)) (ha : w.cell? ⟨g1, 0, none⟩ = some (.int .i64 a)) (h : decide (a ≥ (n : Int)) = true) :
    Calls Try.prog 37 #[.pointer (some ⟨g1, 0, none⟩), .pointer (some ⟨g0, 0, none⟩)] w fun e w' => e = .returned (.tuple #[.int .u8 0, .bool false]) ∧ w' = w := by
  go_enter Try.func37, Try.ntmps37
  go_wp2
  go_ret2
  exact ⟨rfl, rfl⟩
set_option maxHeartbeats 400000 in
theorem rv_next_yes (w : World) (g0 g1 : Nat) (A : Option Addr) (n c : Nat) (xs : List Int) (a : Int) (hb : w.cell? ⟨g0, 0, none⟩ = some (.slice A n c)) (ha : w.cell? ⟨g1, 0, none⟩ = some (.int .i64 a)) (hf : w.frozen? ⟨g1, 0, none⟩ = false)
    (h0 : 0 ≤ a) (h1 : a < (n : Int)) (hn : n ≤ 9223372036854775807) (hne : g0 ≠ g1) (hC : Kd.C (Kd.int .u8) (w.setCell ⟨g1, 0, none⟩ (.int .i64 (a + 1))) A n xs) :
    Calls Try.prog 37 #[.pointer (some ⟨g1, 0, none⟩), .pointer (some ⟨g0, 0, none⟩)] w fun e w' => e = .returned (.tuple #[.int .u8 (rd xs a), .bool true]) ∧ w' = w.setCell ⟨g1, 0, none⟩ (.int .i64 (a + 1)) := by
  have hb' : (w.setCell ⟨g1, 0, none⟩ (.int .i64 (a + 1))).cell? ⟨g0, 0, none⟩ = some (.slice A n c) := by
    rw [World.cell?_setCell_other _ _ _ _ (by simp)]; exact hb
  obtain ⟨ad, rfl, hx⟩ := c_at hC a h0 h1
  clear hC
  go_enter Try.func37, Try.ntmps37
  go_wp2
  go_ret2
  exact ⟨rfl, rfl⟩

def rvn (n x s : Int) : Int := bits .or .u64 n (IntKind.u64.wrap (IntKind.u64.wrap (bits .and .u8 x 127) * 2 ^ s.toNat))
def rvl : Nat → List Int → Int → Int → Int → Int → Option (Int × Int × Int)
  | 0, _, _, _, _, _ => none
  | k + 1, b, fr, at_, s, n =>
    if at_ < b.length then
      (if s = 63 ∧ 1 < rd b at_ then some (0, 0, 110)
       else if rd b at_ < 128 then (if rd b at_ = 0 ∧ 1 < at_ + 1 - fr then some (0, 0, 8) else some (rvn n (rd b at_) s, at_ + 1, 0))
       else rvl k b fr (at_ + 1) (s + 7) (rvn n (rd b at_) s))
    else some (0, 0, 6)

set_option maxHeartbeats 1000000 in
theorem rv_walk (k : Nat) (A0 : Option Addr) (c0 : Nat) (l0 : List Int) (a1 : Int) (r1 r2 r3 : Int) (w : World) (hr0 : Kd.C (Kd.int .u8) w A0 l0.length l0) (hc0 : l0.length ≤ c0) (h0 : 0 ≤ a1) (h1 : a1 ≤ l0.length) (h : rvl k l0 a1 a1 0 0 = some (r1, r2, r3)) :
    Calls Try.prog 31 #[.slice A0 l0.length c0, .int .i64 a1] w fun e w' => e = .returned (.tuple #[.int .u64 r1, .int .i64 r2, .int .i64 r3]) ∧ Below w.heap.size w w' := by
  have hl : l0.length ≤ 9223372036854775807 := hr0.2.1
  have H' := Aside0.mk h
  clear h
  go_enter Try.func31, Try.ntmps31
  go_wp2
  go_step3
  go_wp2
  go_step3
  go_wp2
  have HB0 : Below w.heap.size w ((w.alloc (Obj.cells #[Value.slice A0 l0.length c0] 29)).alloc (Obj.cells #[Value.int IntKind.i64 a1] 3)) := below_alloc (below_alloc (Below.refl _ _) _) _
  go_loopg [9, 10, 11] k (fun kq v9 v10 v11 w' => ∃ (p s n last : Int), v9 = .int .u64 n ∧ v10 = .int .u8 last ∧ v11 = .int .i64 s ∧ Aside0 (rvl kq l0 a1 p s n = some (r1, r2, r3)) ∧ Aside0 (kq ≤ k) ∧ 0 ≤ s ∧ s ≤ 63 ∧ Aside0 (s % 7 = 0) ∧ a1 ≤ p ∧ p ≤ l0.length ∧
    w'.heap[w.heap.size]? = some (.cells #[.slice A0 l0.length c0] 29 (0, 0)) ∧ w'.heap[w.heap.size + 1]? = some (.cells #[.int .i64 p] 3 (0, 0)) ∧ Aside0 (Below w.heap.size w w'))
  case atStart => exact ⟨a1, 0, 0, 0, rfl, rfl, rfl, H', ⟨Nat.le_refl _⟩, by omega, by omega, ⟨rfl⟩, Int.le_refl _, h1, blk_alloc (blk_new _ _) _, (by have := blk_new (w.alloc (Obj.cells #[Value.slice A0 l0.length c0] 29)) (Obj.cells #[Value.int IntKind.i64 a1] 3); rwa [World.size_alloc] at this), ⟨HB0⟩⟩
  case round =>
    clear H' HB0
    obtain ⟨p, s, n, last, rfl, rfl, rfl, HA, HK, hs0, hs1, hs7, hp, hpl, HG0, HG1, HB⟩ := hrel
    cases gk with
    | zero => exact absurd HA.out (by simp [rvl])
    | succ k1 =>
      have H := HA.out
      clear HA
      simp only [rvl] at H
      have hb : wr.cell? ⟨w.heap.size, 0, none⟩ = some (.slice A0 l0.length c0) := blk_cell HG0 0
      have ha : wr.cell? ⟨w.heap.size + 1, 0, none⟩ = some (.int .i64 p) := blk_cell HG1 0
      by_cases hlt : p < l0.length
      · rw [if_pos hlt] at H
        have hf : wr.frozen? ⟨w.heap.size + 1, 0, none⟩ = false := blk_frozen HG1 0
        have HB1 : Below w.heap.size w (wr.setCell ⟨w.heap.size + 1, 0, none⟩ (.int .i64 (p + 1))) := HB.out.setCell (p := ⟨w.heap.size + 1, 0, none⟩) (by simp) _
        have HB1 := Aside0.mk HB1
        have HG0' : (wr.setCell ⟨w.heap.size + 1, 0, none⟩ (.int .i64 (p + 1))).heap[w.heap.size]? = some (.cells #[.slice A0 l0.length c0] 29 (0, 0)) := blk_far HG0 (by simp) _
        have HG1' : (wr.setCell ⟨w.heap.size + 1, 0, none⟩ (.int .i64 (p + 1))).heap[w.heap.size + 1]? = some (.cells #[.int .i64 (p + 1)] 3 (0, 0)) := blk_set HG1 0 _
        have HG0' := Aside0.mk HG0'
        have HG1' := Aside0.mk HG1'
        have HN := rv_next_yes wr w.heap.size (w.heap.size + 1) A0 l0.length c0 l0 p hb ha hf (by omega) hlt hl (by omega) (Kd.C_below hr0 HB1.out)
        clear hb ha hf HG0 HG1 HB
        obtain ⟨x, hx⟩ : ∃ x, x = rd l0 p := ⟨_, rfl⟩
        rw [← hx] at H HN
        have H' := Aside0.mk H
        clear H hx
        go_wp2_with fail
        refine HN.mono ?_
        clear HN
        rintro e W1 ⟨rfl, hW1⟩
        rw [← hW1] at HB1 HG0' HG1'
        clear hW1
        have ha : W1.cell? ⟨w.heap.size + 1, 0, none⟩ = some (.int .i64 (p + 1)) := blk_cell HG1'.out 0
        by_cases h9 : s = 63
        · have h9b : (s == 63) = true := beq_iff_eq.2 h9
          have h9 := Aside0.mk h9
          by_cases h1x : 1 < x
          · have h1b := decide_eq_true h1x
            have H := H'.out
            rw [if_pos ⟨h9.out, h1x⟩] at H
            obtain ⟨rfl, rfl, rfl⟩ : 0 = r1 ∧ 0 = r2 ∧ 110 = r3 := by simpa using H
            clear H H'
            go_wp2
            rw [Exit.noGoto_ret]
            go_ret3
            exact ⟨rfl, HB1.out⟩
          · have h1b := decide_eq_false h1x
            have hv := Aside0.mk (show rvn n x s = bits .or .u64 n (IntKind.u64.wrap (IntKind.u64.wrap (bits .and .u8 x 127) * 9223372036854775808)) by rw [h9.out]; rfl)
            by_cases h128 : x < 128
            · have h128b := decide_eq_true h128
              by_cases hx0 : x = 0
              · have hx0b : (x == 0) = true := beq_iff_eq.2 hx0
                by_cases hfr : 1 < p + 1 - a1
                · have H := H'.out
                  rw [if_neg (fun h => h1x h.2), if_pos h128, if_pos ⟨hx0, hfr⟩] at H
                  obtain ⟨rfl, rfl, rfl⟩ : 0 = r1 ∧ 0 = r2 ∧ 8 = r3 := by simpa using H
                  clear H H' hx0
                  go_wp2
                  rw [Exit.noGoto_ret]
                  go_ret3
                  exact ⟨rfl, HB1.out⟩
                · have H := H'.out
                  rw [if_neg (fun h => h1x h.2), if_pos h128, if_neg (fun h => hfr h.2)] at H
                  obtain ⟨rfl, rfl, rfl⟩ : rvn n x s = r1 ∧ p + 1 = r2 ∧ 0 = r3 := by simpa using H
                  clear H H' hx0
                  go_wp2
                  go_quiet (fail)
                  go_wp2
                  rw [Exit.noGoto_ret]
                  go_ret3
                  exact ⟨by rw [hv.out]; rfl, by repeat (first | exact HB1.out | apply pw_below_drewN | apply below_drew1)⟩
              · have hx0b : (x == 0) = false := beq_eq_false_iff_ne.2 hx0
                have H := H'.out
                rw [if_neg (fun h => h1x h.2), if_pos h128, if_neg (fun h => hx0 h.1)] at H
                obtain ⟨rfl, rfl, rfl⟩ : rvn n x s = r1 ∧ p + 1 = r2 ∧ 0 = r3 := by simpa using H
                clear H H' hx0
                go_wp2
                go_quiet (fail)
                go_wp2
                rw [Exit.noGoto_ret]
                go_ret3
                exact ⟨by rw [hv.out]; rfl, by repeat (first | exact HB1.out | apply pw_below_drewN | apply below_drew1)⟩
            · have h128b := decide_eq_false h128
              exact absurd h128 (by omega)
        · have h9b : (s == 63) = false := beq_eq_false_iff_ne.2 h9
          have h9 := Aside0.mk h9
          by_cases h128 : x < 128
          · have h128b := decide_eq_true h128
            by_cases hx0 : x = 0
            · have hx0b : (x == 0) = true := beq_iff_eq.2 hx0
              by_cases hfr : 1 < p + 1 - a1
              · have H := H'.out
                rw [if_neg (fun h => h9.out h.1), if_pos h128, if_pos ⟨hx0, hfr⟩] at H
                obtain ⟨rfl, rfl, rfl⟩ : 0 = r1 ∧ 0 = r2 ∧ 8 = r3 := by simpa using H
                clear H H' hx0
                go_wp2
                rw [Exit.noGoto_ret]
                go_ret3
                exact ⟨rfl, HB1.out⟩
              · have H := H'.out
                rw [if_neg (fun h => h9.out h.1), if_pos h128, if_neg (fun h => hfr h.2)] at H
                obtain ⟨rfl, rfl, rfl⟩ : rvn n x s = r1 ∧ p + 1 = r2 ∧ 0 = r3 := by simpa using H
                clear H H' hx0
                go_wp2
                go_quiet (fail)
                go_wp2
                rw [Exit.noGoto_ret]
                go_ret3
                exact ⟨rfl, by repeat (first | exact HB1.out | apply pw_below_drewN | apply below_drew1)⟩
            · have hx0b : (x == 0) = false := beq_eq_false_iff_ne.2 hx0
              have H := H'.out
              rw [if_neg (fun h => h9.out h.1), if_pos h128, if_neg (fun h => hx0 h.1)] at H
              obtain ⟨rfl, rfl, rfl⟩ : rvn n x s = r1 ∧ p + 1 = r2 ∧ 0 = r3 := by simpa using H
              clear H H' hx0
              go_wp2
              go_quiet (fail)
              go_wp2
              rw [Exit.noGoto_ret]
              go_ret3
              exact ⟨rfl, by repeat (first | exact HB1.out | apply pw_below_drewN | apply below_drew1)⟩
          · have h128b := decide_eq_false h128
            have H := H'.out
            rw [if_neg (fun h => h9.out h.1), if_neg h128] at H
            clear H'
            have H' := Aside0.mk H
            clear H
            go_wp2
            go_roundg k1
            case measure => have := HK.out; omega
            case rel => exact ⟨p + 1, s + 7, rvn n x s, x, rfl, rfl, rfl, H', ⟨by have := HK.out; omega⟩, by omega, by have := h9.out; have := hs7.out; omega, ⟨by have := hs7.out; omega⟩, by omega, by omega, HG0'.out, HG1'.out, ⟨HB1.out⟩⟩
      · rw [if_neg hlt] at H
        obtain ⟨rfl, rfl, rfl⟩ : 0 = r1 ∧ 0 = r2 ∧ 6 = r3 := by simpa using H
        clear H
        have HN := rv_next_no wr w.heap.size (w.heap.size + 1) A0 l0.length c0 p hb ha (decide_eq_true (by omega))
        go_wp2_with fail
        refine HN.mono ?_
        clear HN
        rintro e W1 ⟨rfl, rfl⟩
        go_wp2
        rw [Exit.noGoto_ret]
        go_ret3
        exact ⟨rfl, HB.out⟩

def bits_ReadVarint.f (k : Nat) (l0 : List Int) (a1 : Int) : Option (Int × Int × Int) := if a1 < 0 then some (0, 0, 2) else if a1 > (l0.length : Int) then some (0, 0, 2) else rvl k l0 a1 a1 0 0
theorem rvl_mono : ∀ k b fr p s n, LeO (rvl k b fr p s n) (rvl (k + 1) b fr p s n)
  | 0, _, _, _, _, _ => LeO.none _
  | k + 1, b, fr, p, s, n => by
    rw [rvl, rvl]
    exact LeO.ite (LeO.ite (LeO.refl _) (LeO.ite (LeO.refl _) (rvl_mono k _ _ _ _ _))) (LeO.refl _)
theorem bits_ReadVarint.mono : ∀ l0 a1 k, LeO (bits_ReadVarint.f k l0 a1) (bits_ReadVarint.f (k + 1) l0 a1) := by
  intro l0 a1 k
  unfold bits_ReadVarint.f
  exact LeO.ite (LeO.refl _) (LeO.ite (LeO.refl _) (rvl_mono k _ _ _ _ _))
set_option maxHeartbeats 400000 in
theorem rv_bad (A0 : Option Addr) (c0 : Nat) (l0 : List Int) (a1 : Int) (w : World) (h : a1 < 0 ∨ a1 > (l0.length : Int)) :
    Calls Try.prog 31 #[.slice A0 l0.length c0, .int .i64 a1] w fun e w' => e = .returned (.tuple #[.int .u64 0, .int .i64 0, .int .i64 2]) ∧ Below w.heap.size w w' := by
  by_cases h0 : a1 < 0
  · clear h
    have h0b := decide_eq_true h0
    go_enter Try.func31, Try.ntmps31
    go_wp2
    go_step3
    go_wp2
    rw [Exit.noGoto_ret]
    go_ret3
    exact ⟨rfl, below_alloc (below_alloc (Below.refl _ _) _) _⟩
  · have h1 : (l0.length : Int) < a1 := by omega
    clear h
    have h0b := decide_eq_false h0
    have h1b := decide_eq_true h1
    go_enter Try.func31, Try.ntmps31
    go_wp2
    go_step3
    go_wp2
    rw [Exit.noGoto_ret]
    go_ret3
    exact ⟨rfl, below_alloc (below_alloc (Below.refl _ _) _) _⟩
theorem bits_ReadVarint.calls (k : Nat) (A0 : Option Addr) (c0 : Nat) (l0 : List Int) (a1 : Int) (r1 : Int) (r2 : Int) (r3 : Int) (w : World) (hr0 : Kd.C (Kd.int .u8) w A0 l0.length l0) (hc0 : l0.length ≤ c0) (h : bits_ReadVarint.f k l0 a1 = some (r1, r2, r3)) :
    Calls Try.prog 31 #[.slice A0 l0.length c0, .int .i64 a1] w fun e w' => e = .returned (.tuple #[.int .u64 r1, .int .i64 r2, .int .i64 r3]) ∧ Below w.heap.size w w' := by
  unfold bits_ReadVarint.f at h
  by_cases c : a1 < 0
  · rw [if_pos c] at h
    obtain ⟨rfl, rfl, rfl⟩ : 0 = r1 ∧ 0 = r2 ∧ 2 = r3 := by simpa using h
    exact rv_bad A0 c0 l0 a1 w (.inl c)
  · rw [if_neg c] at h
    by_cases d : a1 > (l0.length : Int)
    · rw [if_pos d] at h
      obtain ⟨rfl, rfl, rfl⟩ : 0 = r1 ∧ 0 = r2 ∧ 2 = r3 := by simpa using h
      exact rv_bad A0 c0 l0 a1 w (.inr d)
    · rw [if_neg d] at h
      exact rv_walk k A0 c0 l0 a1 r1 r2 r3 w hr0 hc0 (by omega) (by omega) h

end Go.Proofs.Ytgdlbfkblopoeaa.X
