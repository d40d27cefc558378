/- Written by a program of this session (wip/xprint.py) with the kit's printer: Go functions as Lean functions, and that the code comes to their answers. -/
import Derived.Test.YtpibhiacmceekaaX0
import Derived.Test.YtpibhiacmceekaaX5
import Derived.Test.YtpibhiacmceekaaHx
namespace Go.Proofs.Ytpibhiacmceekaa.X
open Go.RowKit Go.Proofs.YtpibhiacmceekaaW.PrintWords Go.Proofs.YtpibhiacmceekaaW.PrintLast Go.Proofs.YtpibhiacmceekaaW.PrintMore
attribute [local go_sem] max2_int min2_int max_two min_two max_three min_three max_four min_four   -- for this text's walks alone
set_option linter.unusedVariables false
set_option linter.unusedSimpArgs false

/-! ### hybrid_packs: function 40 (by hand): a loop with a label -/
def hybrid_packs.l0 : Nat → List Int → Int → Option Int
  | 0, _, _ => none
  | k + 1, l, n => if n < (l.length : Int) then (hybrid_same.f k (l.drop (min (n + 8) (l.length : Int)).toNat)).bind fun s => if s ≥ 8 then some (min (n + 8) (l.length : Int)) else hybrid_packs.l0 k l (min (n + 8) (l.length : Int)) else some n
def hybrid_packs.f (k : Nat) (l0 : List Int) : Option Int := if (l0.length : Int) ≤ 1000000000000 then hybrid_packs.l0 k l0 0 else none
theorem hybrid_packs.mono_l : ∀ k l n, LeO (hybrid_packs.l0 k l n) (hybrid_packs.l0 (k + 1) l n)
  | 0, _, _ => LeO.none _
  | k + 1, l, n => by
    rw [hybrid_packs.l0, hybrid_packs.l0]
    exact LeO.ite (LeO.bind (hybrid_same.mono _ _) (fun _ => LeO.ite (LeO.refl _) (hybrid_packs.mono_l k _ _))) (LeO.refl _)
theorem hybrid_packs.mono : ∀ l0 k, LeO (hybrid_packs.f k l0) (hybrid_packs.f (k + 1) l0) := by
  intro l0 k
  unfold hybrid_packs.f
  exact LeO.ite (hybrid_packs.mono_l _ _ _) (LeO.refl _)
set_option maxHeartbeats 1000000 in
theorem hp_walk (k : Nat) (A0 : Option Addr) (c0 : Nat) (l0 : List Int) (r : Int) (w : World) (hr0 : Kd.C (Kd.int .i64) w A0 l0.length l0) (hc0 : l0.length ≤ c0) (hl : (l0.length : Int) ≤ 1000000000000) (h : hybrid_packs.l0 k l0 0 = some r) :
    Calls Try.prog 40 #[.slice A0 l0.length c0] w fun e w' => e = .returned (.int .i64 r) ∧ Drawn0 w w' := by
  have H' := Aside0.mk h
  have HR := Aside0.mk hr0
  clear h hr0
  go_enter Try.func40, Try.ntmps40
  go_wp2
  go_step3
  go_wp2
  go_step3
  go_wp2
  go_loopg [3] k (fun kq v3 w' => ∃ n : Int, v3 = .int .i64 n ∧ 0 ≤ n ∧ n ≤ l0.length ∧ Aside0 (hybrid_packs.l0 kq l0 n = some r) ∧ Aside0 (kq ≤ k) ∧ Aside0 (Drawn0 w w'))
  case atStart => exact ⟨0, rfl, Int.le_refl _, by omega, H', ⟨Nat.le_refl _⟩, ⟨Drawn0.refl _⟩⟩
  case round =>
    clear H'
    obtain ⟨n, rfl, hn0, hn1, HA, HK, HD⟩ := hrel
    cases gk with
    | zero => exact absurd HA.out (by simp [hybrid_packs.l0])
    | succ k1 =>
      have hA := HA.out
      rw [hybrid_packs.l0] at hA
      by_cases hlt : n < (l0.length : Int)
      · rw [if_pos hlt] at hA
        obtain ⟨s, hs, hA⟩ := Option.bind_eq_some_iff.1 hA
        obtain ⟨m, hm⟩ : ∃ m : Int, m = min (n + 8) (l0.length : Int) := ⟨_, rfl⟩
        rw [← hm] at hs hA
        have hm0 : n < m := by omega
        have hm1 : m ≤ l0.length := by omega
        have hm2 : 0 ≤ m := by omega
        have HC := Aside0.mk (Kd.C_drop (m := m.toNat) (c := c0) (Kd.C_below HR.out HD.out.below) (by omega) hc0)
        have hltb := decide_eq_true hlt
        have HN : Calls Try.prog 37 #[.slice (if c0 = m.toNat then A0 else A0.map (·.add m.toNat)) (l0.length - m.toNat) (c0 - m.toNat)] wr fun e w' => e = .returned (.int .i64 s) ∧ Drawn0 wr w' := by
          have := hybrid_same.calls k1 _ (c0 - m.toNat) (l0.drop m.toNat) s wr HC.out (by rw [List.length_drop]; omega) hs
          rw [List.length_drop] at this
          simpa [Kd.int, Kd.scalar] using this
        clear hs HC
        by_cases c8 : n + 8 ≤ (l0.length : Int)
        · obtain rfl : m = n + 8 := by omega
          clear HA hm
          go_wp2_with fail
          all_goals
            first | rw [if_pos (by assumption)] at HN | rw [if_neg (by assumption)] at HN
            (try rw [show c0 = _ from by assumption, Nat.sub_self] at HN)
            refine HN.mono ?_
            clear HN
            rintro e w' ⟨rfl, ⟨nd, rfl⟩⟩
            have HD' := Aside0.mk (HD.out.step nd)
            by_cases h8 : s ≥ 8
            · rw [if_pos h8] at hA
              obtain rfl := Option.some.inj hA
              clear hA
              have h8b := decide_eq_true (show 8 ≤ s from h8)
              go_wp2
              rw [Exit.noGoto_ret]
              go_ret
              exact ⟨rfl, HD'.out⟩
            · rw [if_neg h8] at hA
              have HA' := Aside0.mk hA
              clear hA
              have h8b := decide_eq_false (show ¬ 8 ≤ s from h8)
              go_wp2
              first | subst h | skip
              go_roundg k1
              case rel => exact ⟨_, rfl, by omega, by omega, HA', ⟨by have := HK.out; omega⟩, HD'⟩
              case measure => have := HK.out; omega
        · obtain rfl : m = (l0.length : Int) := by omega
          clear HA hm
          rw [show ((l0.length : Int)).toNat = l0.length from rfl, Nat.sub_self] at HN
          go_wp2_with fail
          all_goals
            first | rw [if_pos (by assumption)] at HN | rw [if_neg (by assumption)] at HN
            (try rw [show c0 = _ from by assumption, Nat.sub_self] at HN)
            refine HN.mono ?_
            clear HN
            rintro e w' ⟨rfl, ⟨nd, rfl⟩⟩
            have HD' := Aside0.mk (HD.out.step nd)
            by_cases h8 : s ≥ 8
            · rw [if_pos h8] at hA
              obtain rfl := Option.some.inj hA
              clear hA
              have h8b := decide_eq_true (show 8 ≤ s from h8)
              go_wp2
              rw [Exit.noGoto_ret]
              go_ret
              exact ⟨rfl, HD'.out⟩
            · rw [if_neg h8] at hA
              have HA' := Aside0.mk hA
              clear hA
              have h8b := decide_eq_false (show ¬ 8 ≤ s from h8)
              go_wp2
              first | subst h | skip
              go_roundg k1
              case rel => exact ⟨_, rfl, by omega, by omega, HA', ⟨by have := HK.out; omega⟩, HD'⟩
              case measure => have := HK.out; omega
      · rw [if_neg hlt] at hA
        obtain rfl := Option.some.inj hA
        clear hA HA
        have hltb := decide_eq_false hlt
        go_wp2
        go_ret
        exact ⟨rfl, HD.out⟩
theorem hybrid_packs.calls (k : Nat) (A0 : Option Addr) (c0 : Nat) (l0 : List Int) (r : Int) (w : World) (hr0 : Kd.C (Kd.int .i64) w A0 l0.length l0) (hc0 : l0.length ≤ c0) (h : hybrid_packs.f k l0 = some r) :
    Calls Try.prog 40 #[.slice A0 l0.length c0] w fun e w' => e = .returned (.int .i64 r) ∧ Drawn0 w w' := by
  unfold hybrid_packs.f at h
  by_cases c : (l0.length : Int) ≤ 1000000000000
  · rw [if_pos c] at h
    exact hp_walk k A0 c0 l0 r w hr0 hc0 c h
  · rw [if_neg c] at h; exact absurd h (by simp)

end Go.Proofs.Ytpibhiacmceekaa.X
