/- StringsLengths: texts of this seat in one (wip/merge.py): Tm, X42, X43, Tf, To, Tg, X45, Rd. -/
import Derived.Test.YtcdephhplmcmjaaGStringsLengths5
import Derived.Deep.RegionHeld3
import Derived.Test.YtcdephhplmcmjaaGStringsLengths0
import Derived.Test.YtcdephhplmcmjaaGStringsLengths2
import Derived.Test.YtcdephhplmcmjaaGStringsLengths3
import Derived.Deep.Slices
import Derived.Lib.SmallJoins
import Derived.SizedLaws
section
namespace Go.Proofs.Ytcdephhplmcmjaa.X
open Go.RowKit Go.Proofs.YtcdephhplmcmjaaW.PrintWords Go.Proofs.YtcdephhplmcmjaaW.PrintLast Go.Proofs.YtcdephhplmcmjaaW.PrintMore
set_option linter.unusedVariables false
set_option linter.unusedSimpArgs false
def rbT (b : List Int) (res : Except Int (List ByteArray × List Int)) : List ByteArray × Int × Int :=
  match res with
  | .error x => ([], 0, x)
  | .ok (l, r) => (l, (b.length : Int) - r.length, 0)
theorem cutT_rest {L r : List Int} (h : ∀ n ∈ L, 0 ≤ n) (hs : sumI L ≤ r.length) (hu : ∀ x ∈ r, 0 ≤ x ∧ x ≤ 255) : (r.length : Int) = sumI L + ((cutT L r).2.length : Int) := by
  obtain ⟨_, c4, c5⟩ := cutT_inv L r h hs hu
  have c6 := congrArg List.length c4
  rw [List.length_append, flatZ_length] at c6
  omega
def sumR (L r : List Int) : Except Int (List ByteArray × List Int) := match sumT L 0 with
  | .error x => .error x
  | .ok s => if s ≤ (r.length : Int) then .ok (cutT L r) else .error 6
theorem textsT_of {count : Int} {b L r : List Int} (h : numsT count b = .ok (L, r)) : textsT count b = sumR L r := by
  unfold textsT sumR
  rw [h]
  simp only []
  cases sumT L 0 <;> rfl
theorem textsT_no {count x : Int} {b : List Int} (h : numsT count b = .error x) : textsT count b = .error x := by
  unfold textsT
  rw [h]
theorem sumR_no {L r : List Int} {x : Int} (h : sumT L 0 = .error x) : sumR L r = .error x := by
  unfold sumR
  rw [h]
theorem sumR_ok {L r : List Int} {s : Int} (h : sumT L 0 = .ok s) : sumR L r = if s ≤ (r.length : Int) then .ok (cutT L r) else .error 6 := by
  unfold sumR
  rw [h]
set_option maxRecDepth 100000 in
set_option maxHeartbeats 4000000 in
theorem tm_all (A : Option Addr) (c : Nat) (b : List Int) (count : Int) (w : World) (hC : Kd.C (Kd.int .u8) w A b.length b) (hc : b.length ≤ c) (hu : ∀ x ∈ b, 0 ≤ x ∧ x ≤ 255) (hl : b.length ≤ 6000) :
    Calls Try.prog 37 #[.slice A b.length c, .int .i64 count] w fun e w' => ∃ v, e = .returned (.tuple #[v, .int .i64 (rbT b (textsT count b)).2.1, .int .i64 (rbT b (textsT count b)).2.2]) ∧ Kd.R Kd.string 9 w' w.heap.size (fun _ => True) v (rbT b (textsT count b)).1 ∧ Below w.heap.size w w' := by
  obtain ⟨L, n, x, hr⟩ : ∃ L n x, D13.beginR b = (L, n, x) := ⟨_, _, _, rfl⟩
  have HBG := Aside0.mk (marquetryref13_Begin.calls A c b L n x w hC hc (by unfold marquetryref13_Begin.f; rw [if_pos ⟨u8All_iff.2 hu, hl⟩, hr]))
  have HC := Aside0.mk hC
  have HU := Aside0.mk hu
  obtain ⟨hn0, hn1, hll, _⟩ := beginR_le hr
  clear hC hu
  by_cases cx : x = 0
  · by_cases cl : (L.length : Int) = count
    · obtain ⟨n, rfl⟩ : ∃ m : Nat, n = (m : Int) := ⟨n.toNat, by omega⟩
      rw [textsT_of (show numsT count b = .ok (L, b.drop n) from by unfold numsT; rw [hr]; simp only []; rw [if_pos cx, if_pos cl, Int.toNat_natCast])]
      clear hr
      have qx : (x != 0) = false := by simp [cx]
      have ql : ((L.length : Int) != count) = false := by simp [cl]
      have hwn : IntKind.i64.wrap ((b.length : Int) - (n : Int)) = (b.length : Int) - (n : Int) := IntWalk.i64_in _ (by omega)
      obtain ⟨res, hres⟩ : ∃ res, res = rbT b (sumR L (b.drop n)) := ⟨_, rfl⟩
      have HRES := Aside0.mk hres
      rw [← hres]
      clear hres cx cl
      go_enter Try.func37, Try.ntmps37
      go_wp2_with fail
      refine HBG.out.mono ?_
      rintro e W1 ⟨v1, rfl, hR1, hb1⟩
      obtain ⟨Al, cl, rfl, hcl, hC1⟩ := Kd.R_reads hR1
      have HW1 := Aside0.mk hb1
      have HL1 := Aside0.mk hC1
      clear hR1 hb1 hC1 HBG
      go_wp2
      go_loopw [10, 11] (fun v10 v11 wr => ∃ (i : Nat) (s : Int), v11 = .int .i64 i ∧ v10 = .int .i64 s ∧ i ≤ L.length ∧ 0 ≤ s ∧ s ≤ 1048576 ∧ Aside0 (sumT (L.drop i) s = sumT L 0) ∧ Aside0 (Below W1.heap.size W1 wr)) (fun _ v11 _ => 70000 - (intOf v11).toNat)
      case atStart => exact ⟨0, 0, rfl, rfl, by omega, by omega, by omega, ⟨rfl⟩, ⟨Below.refl _ _⟩⟩
      case round =>
        obtain ⟨i, s, rfl, rfl, hi, hs0, hs1, HS, HB⟩ := hrel
        have hw1 : IntKind.i64.wrap ((i : Int) + 1) = (i : Int) + 1 := IntWalk.i64_in _ (by omega)
        have hw2 : IntKind.i64.wrap (1048576 - s) = 1048576 - s := IntWalk.i64_in _ (by omega)
        by_cases ci : i < L.length
        · have q1 : decide ((i : Int) < (L.length : Int)) = true := decide_eq_true (by omega)
          have q2 : decide (i < L.length) = true := decide_eq_true ci
          obtain ⟨x, hx⟩ : ∃ x, L[i]? = some x := ⟨_, List.getElem?_eq_getElem ci⟩
          have hsx := HS.out
          rw [drop_at hx, sumT] at hsx
          obtain ⟨ad, rfl, hcell⟩ := num_at (Kd.C_below HL1.out HB.out) hx
          have p1 : (0 : Int) ≤ (i : Int) := by omega
          have p2 : (i : Int) < (L.length : Int) := by omega
          have p3 : ((i : Int)).toNat = i := rfl
          have Hi := Aside0.mk ci
          by_cases c0 : 0 ≤ x
          · have q3 : decide (x < 0) = false := decide_eq_false (by omega)
            rw [if_pos c0] at hsx
            by_cases c3 : x ≤ 1048576 - s
            · have q4 : decide (x > 1048576 - s) = false := decide_eq_false (by omega)
              have hw3 : IntKind.i64.wrap (s + x) = s + x := IntWalk.i64_in _ (by omega)
              rw [if_pos c3] at hsx
              have HSX := Aside0.mk hsx
              have HSB := Aside0.mk (show 0 ≤ s + x ∧ s + x ≤ 1048576 from ⟨by omega, by omega⟩)
              clear hsx hx hs0 hs1 HS c0 c3 hi ci
              go_wp2
              go_roundw
              case rel => exact ⟨i + 1, s + x, by go_num, rfl, Hi.out, HSB.out.1, HSB.out.2, HSX, HB⟩
              case measure => have := Hi.out; simp [intOf]; omega
            · have q4 : decide (x > 1048576 - s) = true := decide_eq_true (by omega)
              rw [if_neg c3] at hsx
              obtain rfl : res = ([], 0, 3) := by rw [HRES.out, sumR_no hsx.symm]; rfl
              clear hsx hx hs0 hs1 HS c0 c3 hi ci HRES
              go_wp2
              go_ret3
              exact ⟨_, rfl, Kd.R_nil _ _ _ _ _, below_then HW1.out HW1.out.size HB.out⟩
          · have q3 : decide (x < 0) = true := decide_eq_true (by omega)
            rw [if_neg c0] at hsx
            obtain rfl : res = ([], 0, 8) := by rw [HRES.out, sumR_no hsx.symm]; rfl
            clear hsx hx hs0 hs1 HS c0 hi ci HRES
            go_wp2
            go_ret3
            exact ⟨_, rfl, Kd.R_nil _ _ _ _ _, below_then HW1.out HW1.out.size HB.out⟩
        · have q1 : decide ((i : Int) < (L.length : Int)) = false := decide_eq_false (by omega)
          have q2 : decide (i < L.length) = false := decide_eq_false ci
          have hS : sumT L 0 = .ok s := by have h := HS.out; rw [List.drop_of_length_le (by omega), sumT] at h; exact h.symm
          obtain ⟨hnn, hst, hsm⟩ := sumT_ok L 0 s hS (by omega) (by omega)
          have hres := HRES.out
          rw [sumR_ok hS] at hres
          have hd : ((b.drop n).length : Int) = (b.length : Int) - n := by rw [List.length_drop]; omega
          by_cases c6 : s ≤ ((b.drop n).length : Int)
          · have q6 : decide (s > (b.length : Int) - (n : Int)) = false := decide_eq_false (by omega)
            rw [if_pos c6] at hres
            have HNN := Aside0.mk hnn
            have HRES2 := Aside0.mk (show res = ((cutT L (b.drop n)).1, (n : Int) + sumI L, 0) by
              rw [hres]
              have := cutT_rest (r := b.drop n) hnn (by omega) (fun x hx => HU.out x (List.mem_of_mem_drop hx))
              unfold rbT
              simp only []
              refine Prod.ext rfl (Prod.ext ?_ rfl)
              show (b.length : Int) - ((cutT L (b.drop n)).2.length : Int) = (n : Int) + sumI L
              omega)
            have HSB := Aside0.mk (show (n : Int) + sumI (L.drop 0) ≤ (b.length : Int) from by rw [List.drop_zero]; omega)
            clear hres hS hnn hst hsm HS hi ci hs0 hs1 HRES hd c6
            go_wp2
            go_loopw [8, 12, 13] (fun v8 v12 v13 wr => ∃ (i at_ : Nat) (out : List ByteArray), v8 = .int .i64 at_ ∧ v13 = .int .i64 i ∧ i ≤ L.length ∧ at_ ≤ 6000 ∧ Aside0 (out ++ (cutT (L.drop i) (b.drop at_)).1 = (cutT L (b.drop n)).1) ∧ Aside0 ((at_ : Int) + sumI (L.drop i) = (n : Int) + sumI L) ∧ Aside0 (out.length = i) ∧ Aside0 (Kd.string.R 9 wr W1.heap.size (fun _ => True) v12 out) ∧ Aside0 (Below W1.heap.size W1 wr)) (fun _ _ v13 _ => 70000 - (intOf v13).toNat)
            case atStart => exact ⟨0, n, [], rfl, rfl, by omega, by omega, ⟨by rw [List.drop_zero, List.nil_append]⟩, ⟨by rw [List.drop_zero]⟩, ⟨rfl⟩, ⟨Kd.R_nil _ _ _ _ _⟩, HB⟩
            case round =>
              clear HB
              obtain ⟨i, at_, out, rfl, rfl, hi, hat, HCT, HSM, HOL, HO, HB⟩ := hrel
              have hw1 : IntKind.i64.wrap ((i : Int) + 1) = (i : Int) + 1 := IntWalk.i64_in _ (by omega)
              by_cases ci : i < L.length
              · have q1 : decide ((i : Int) < (L.length : Int)) = true := decide_eq_true (by omega)
                have q2 : decide (i < L.length) = true := decide_eq_true ci
                obtain ⟨x, hx⟩ : ∃ x, L[i]? = some x := ⟨_, List.getElem?_eq_getElem ci⟩
                have hx0 : 0 ≤ x := HNN.out x (List.mem_of_getElem? hx)
                have hsb := HSB.out
                have hsm := HSM.out
                rw [List.drop_zero] at hsb
                rw [drop_at hx, sumI] at hsm
                have hs2 := sumI_nn (L.drop (i + 1)) (fun n hn => HNN.out n (List.mem_of_mem_drop hn))
                have hct := HCT.out
                rw [drop_at hx, cutT] at hct
                obtain ⟨ad, rfl, hcell⟩ := num_at (Kd.C_below HL1.out HB.out) hx
                obtain ⟨m, rfl⟩ : ∃ m : Nat, x = (m : Int) := ⟨x.toNat, by omega⟩
                have hcl2 : ∀ w', Below W1.heap.size W1 w' → w'.cell? (ad.add i) = some (.int .i64 (m : Int)) := fun w' h => by
                  obtain ⟨a1, q1, z1⟩ := num_at (Kd.C_below HL1.out h) hx
                  obtain rfl : ad = a1 := by simpa using q1
                  exact z1
                have HCL := Aside0.mk hcl2
                obtain ⟨hi2, hhi⟩ : ∃ hi2 : Nat, hi2 = at_ + m := ⟨_, rfl⟩
                have hw3 : IntKind.i64.wrap ((at_ : Int) + (m : Int)) = (hi2 : Int) := by rw [IntWalk.i64_in _ (by omega)]; omega
                obtain ⟨i0, hi0, _, hsz, _⟩ := info_parts info5
                obtain ⟨A1, hcut, hDd, hC1⟩ := print_mid_of (P := Try.prog) (Value.int .u8) 0 25 5 .i64 .i64 Try.underlying25 hi0 hsz A c b (at_ : Int) (hi2 : Int) (by omega) (by omega) (by omega) hc
                rw [Int.toNat_natCast, Int.toNat_natCast] at hcut hDd hC1
                have cv : (convert 25 9 (.slice A1 ((b.take hi2).drop at_).length (c - at_))).run Try.prog wr = .ok (.string (strOfNums ((b.take hi2).drop at_))) wr := Kd.C_string (P := Try.prog) Try.underlying25 Try.underlying5 Try.underlying9 (Kd.C_of_reads (h1 := fun _ => rfl) (hDd _ (Kd.reads_of_C (Kd.C_below HC.out (below_then HW1.out HW1.out.size HB.out)))))
                have HCT2 := Aside0.mk (show (out ++ [strOfNums ((b.take hi2).drop at_)]) ++ (cutT (L.drop (i + 1)) (b.drop hi2)).1 = (cutT L (b.drop n)).1 from by
                  rw [← hct, List.append_assoc, hhi, List.drop_take, show at_ + m - at_ = m by omega, Int.toNat_natCast, List.drop_drop]
                  rfl)
                have HSM2 := Aside0.mk (show (hi2 : Int) + sumI (L.drop (i + 1)) = (n : Int) + sumI L from by omega)
                have HHI := Aside0.mk (show hi2 ≤ 6000 by omega)
                have p1 : (0 : Int) ≤ (i : Int) := by omega
                have p2 : (i : Int) < (L.length : Int) := by omega
                have p3 : ((i : Int)).toNat = i := rfl
                have Hi := Aside0.mk ci
                obtain ⟨rt, hrt⟩ : ∃ rt, rt = (b.take hi2).drop at_ := ⟨_, rfl⟩
                obtain ⟨y, hy⟩ : ∃ y, y = strOfNums rt := ⟨_, rfl⟩
                rw [← hrt] at hcut cv HCT2
                rw [← hy] at cv HCT2
                clear hrt hy hsb hs2 hct hx hx0 hsm hDd hC1 hi0 hsz hi ci HSM HCT hhi hat hcl2
                go_wp2_with (first
                  | ((with_reducible refine gate_builtin (b := .append) (xs := #[.tmp 63, .tmp 74]) rfl ?_); at_builtin; refine Kd.R_append Kd.string (w0 := W1) W1.heap.size rfl (.tmp 63) (.tmp 74) 22 9 (.string ⟨#[]⟩) 16 rfl Try.underlying22 ss_info rfl (by decide) (by omega) _ out y [.string y] (fun _ => True) (fun _ => False) rfl rfl rfl (fun _ hk => hk.elim) (fun _ _ => trivial) HO.out HB.out HB.out.size (by have := HOL.out; have := Hi.out; omega) ?_; intro v2 w2 ho2 hb2 hg2 hat2; obtain ⟨Av2, cv2, rfl⟩ := Kd.R_slice ho2; have HO2 := Aside0.mk ho2; have HBa := Aside0.mk hb2; have hcell2 := HCL.out w2 hb2; clear ho2 hb2 hg2 hat2 cv hcut))
                go_roundw
                case rel => exact ⟨i + 1, hi2, out ++ [y], rfl, by go_num, Hi.out, HHI.out, HCT2, HSM2, ⟨by rw [List.length_append, HOL.out]; rfl⟩, ⟨by have h := HO2.out; rw [List.length_append, List.length_singleton] at h; exact h⟩, HBa⟩
                case measure => have := Hi.out; simp [intOf]; omega
              · have q1 : decide ((i : Int) < (L.length : Int)) = false := decide_eq_false (by omega)
                have q2 : decide (i < L.length) = false := decide_eq_false ci
                have hct := HCT.out
                have hsm := HSM.out
                rw [List.drop_of_length_le (by omega), cutT, List.append_nil] at hct
                rw [List.drop_of_length_le (by omega), sumI] at hsm
                obtain ⟨A5, c5, rfl⟩ := Kd.R_slice HO.out
                have HE := Aside0.mk (show res = (out, (at_ : Int), 0) by rw [HRES2.out, ← hct, ← hsm, Int.add_zero])
                clear hct hi ci HSM HCT hsm hat
                go_wp2
                go_ret3
                rw [HE.out]
                exact ⟨_, rfl, Kd.R_lower HO.out HW1.out.size, below_then HW1.out HW1.out.size HB.out⟩
          · have q6 : decide (s > (b.length : Int) - (n : Int)) = true := decide_eq_true (by omega)
            rw [if_neg c6] at hres
            obtain rfl : res = ([], 0, 6) := hres
            clear hS hnn hst hsm HS hi ci hs0 hs1 HRES hd c6
            go_wp2
            go_ret3
            exact ⟨_, rfl, Kd.R_nil _ _ _ _ _, below_then HW1.out HW1.out.size HB.out⟩
    · rw [textsT_no (show numsT count b = .error 8 from by unfold numsT; rw [hr]; simp only []; rw [if_pos cx, if_neg cl])]
      clear hr
      have qx : (x != 0) = false := by simp [cx]
      have ql : ((L.length : Int) != count) = true := by simp [cl]
      clear cx cl
      go_enter Try.func37, Try.ntmps37
      go_wp2_with fail
      refine HBG.out.mono ?_
      rintro e W1 ⟨v1, rfl, hR1, hb1⟩
      obtain ⟨Al, cl, rfl, hcl, hC1⟩ := Kd.R_reads hR1
      have HW1 := Aside0.mk hb1
      clear hR1 hb1 hC1 HBG
      go_wp2
      go_ret3
      exact ⟨_, rfl, Kd.R_nil _ _ _ _ _, HW1.out⟩
  · rw [textsT_no (show numsT count b = .error x from by unfold numsT; rw [hr]; simp only []; rw [if_neg cx])]
    clear hr
    have qx : (x != 0) = true := by simp [cx]
    clear cx
    go_enter Try.func37, Try.ntmps37
    go_wp2_with fail
    refine HBG.out.mono ?_
    rintro e W1 ⟨v1, rfl, hR1, hb1⟩
    obtain ⟨Al, cl, rfl, hcl, hC1⟩ := Kd.R_reads hR1
    have HW1 := Aside0.mk hb1
    clear hR1 hb1 hC1 HBG
    go_wp2
    go_ret3
    exact ⟨_, rfl, Kd.R_nil _ _ _ _ _, HW1.out⟩
end Go.Proofs.Ytcdephhplmcmjaa.X
end

section
namespace Go.Proofs.Ytcdephhplmcmjaa.X
open Go.RowKit Go.Proofs.YtcdephhplmcmjaaW.PrintWords Go.Proofs.YtcdephhplmcmjaaW.PrintLast Go.Proofs.YtcdephhplmcmjaaW.PrintMore
attribute [local go_sem] max2_int min2_int max_two min_two max_three min_three max_four min_four
set_option linter.unusedVariables false
set_option linter.unusedSimpArgs false
def marquetryref14_begin.f (l0 : List Int) (a1 : Int) : Option (List ByteArray × Int × Int) := if u8All l0 = true ∧ l0.length ≤ 6000 then some (rbT l0 (textsT a1 l0)) else none
theorem marquetryref14_begin.calls (A0 : Option Addr) (c0 : Nat) (l0 : List Int) (a1 : Int) (r1 : List ByteArray) (r2 : Int) (r3 : Int) (w : World) (hr0 : Kd.C (Kd.int .u8) w A0 l0.length l0) (hc0 : l0.length ≤ c0) (h : marquetryref14_begin.f l0 a1 = some (r1, r2, r3)) :
    Calls Try.prog 37 #[.slice A0 l0.length c0, .int .i64 a1] w fun e w' => ∃ v0_ : Value, e = .returned (.tuple #[v0_, .int .i64 r2, .int .i64 r3]) ∧ Kd.R Kd.string 9 w' w.heap.size (fun _ => True) v0_ r1 ∧ Below w.heap.size w w' := by
  unfold marquetryref14_begin.f at h
  by_cases hu : u8All l0 = true ∧ l0.length ≤ 6000
  · rw [if_pos hu] at h
    have h := Option.some.inj h
    refine (tm_all A0 c0 l0 a1 w hr0 hc0 (u8All_iff.1 hu.1) hu.2).mono ?_
    rintro e w' ⟨v, rfl, ho, hb⟩
    rw [h] at ho ⊢
    exact ⟨v, rfl, ho, hb⟩
  · rw [if_neg hu] at h; cases h
end Go.Proofs.Ytcdephhplmcmjaa.X
end

section
namespace Go.Proofs.Ytcdephhplmcmjaa.X
open Go.RowKit Go.Proofs.YtcdephhplmcmjaaW.PrintWords Go.Proofs.YtcdephhplmcmjaaW.PrintLast Go.Proofs.YtcdephhplmcmjaaW.PrintMore
attribute [local go_sem] max2_int min2_int max_two min_two max_three min_three max_four min_four
set_option linter.unusedVariables false
set_option linter.unusedSimpArgs false
def marquetryref14_ReadLengths.j0 : Nat → List Int → Int → Bool → Option (List ByteArray × Int)
 | 0, _, _, _ => none
 | k + 1, x0, x1, x14 => if x14 = true then (some (([] : List ByteArray), 2)) else ((marquetryref14_begin.f x0 x1).bind fun bt346 => (if bt346.2.2 = 0 then (if bt346.2.1 < (x0.length : Int) then (some (([] : List ByteArray), 7)) else (some (bt346.1, 0))) else (some (([] : List ByteArray), bt346.2.2))))
def marquetryref14_ReadLengths.f (k : Nat) (l0 : List Int) (a1 : Int) : Option (List ByteArray × Int) := if a1 < 0 then (marquetryref14_ReadLengths.j0 k l0 a1 true) else (marquetryref14_ReadLengths.j0 k l0 a1 (decide (a1 > 65536)))
theorem marquetryref14_ReadLengths.mono_l : ∀ k, (∀ y0 y1 y2, LeO (marquetryref14_ReadLengths.j0 k y0 y1 y2) (marquetryref14_ReadLengths.j0 (k + 1) y0 y1 y2))
 | 0 => fun _ _ _ r h => by simp [marquetryref14_ReadLengths.j0] at h
 | k + 1 => by
  have ih0 := marquetryref14_ReadLengths.mono_l k
  ·intro y0 y1 y2
   unfold marquetryref14_ReadLengths.j0
   repeat' first
   | (with_reducible exact ih0 _ _ _)
   | (with_reducible exact LeO.refl _)
   | (with_reducible exact LeO.none _)
   | (with_reducible refine LeO.ite ?_ ?_)
   | (with_reducible refine LeO.bind ?_ (fun _ => ?_))
   | exact ih0 _ _ _
   | exact LeO.none _
   | refine LeO.ite ?_ ?_
   | refine LeO.bind ?_ (fun _ => ?_)
theorem marquetryref14_ReadLengths.mono : ∀ a0 a1 k, LeO (marquetryref14_ReadLengths.f k a0 a1) (marquetryref14_ReadLengths.f (k + 1) a0 a1) := by
 intro a0 a1 k
 have ih0 := marquetryref14_ReadLengths.mono_l k
 unfold marquetryref14_ReadLengths.f
 repeat' first
   | (with_reducible exact ih0 _ _ _)
   | (with_reducible exact LeO.refl _)
   | (with_reducible exact LeO.none _)
   | (with_reducible refine LeO.ite ?_ ?_)
   | (with_reducible refine LeO.bind ?_ (fun _ => ?_))
   | exact ih0 _ _ _
   | exact LeO.none _
   | refine LeO.ite ?_ ?_
   | refine LeO.bind ?_ (fun _ => ?_)
set_option maxHeartbeats 8000000 in
set_option maxRecDepth 100000 in
theorem marquetryref14_ReadLengths.calls (k : Nat) (A0 : Option Addr) (c0 : Nat) (l0 : List Int) (a1 : Int) (r1 : List ByteArray) (r2 : Int) (w : World) (hr0 : Kd.C (Kd.int .u8) w A0 l0.length l0) (hc0 : l0.length ≤ c0) (h : marquetryref14_ReadLengths.f k l0 a1 = some (r1, r2)) :
  Calls Try.prog 20 #[.slice A0 l0.length c0, .int .i64 a1] w fun e w' => ∃ v0_ : Value, e = .returned (.tuple #[v0_, .int .i64 r2]) ∧ Kd.R Kd.string 9 w' w.heap.size (fun _ => True) v0_ r1 ∧ Below w.heap.size w w' := by
 have HR0 := Aside0.mk hr0
 have HC0 := Aside0.mk hc0
 clear hr0 hc0
 have HB := Aside0.mk (Below.refl w.heap.size w)
 have H : (if a1 < 0 then (marquetryref14_ReadLengths.j0 k l0 a1 true) else (marquetryref14_ReadLengths.j0 k l0 a1 (decide (a1 > 65536)))) = some (r1, r2) := h
 clear h
 have HC3 := Aside0.mk H
 clear H
 go_enter Try.func20, Try.ntmps20
 go_upto_region 1 with (fail)
 go_cut [14] (fun v14 wc => ∃ (kq : Nat) (x14_2 : Bool), v14 = .bool x14_2 ∧ Aside0 (marquetryref14_ReadLengths.j0 kq l0 a1 x14_2 = some (r1, r2)) ∧ Aside0 (kq ≤ k) ∧ Aside0 (Below w.heap.size w wc))
 case first =>
  have H := HC3.out
  clear HC3
  by_cases c4 : a1 < 0
  ·rw [if_pos c4] at H
   have c4b0 : decide (a1 < 0) = true := decide_eq_true c4
   clear c4
   (first | rw [c4b0] | (simp only [i64_w, i32_w]; rw [c4b0]) | skip)
   have H' := Aside0.mk H
   clear H
   go_wp2
   go_meet
   case rel => exact ⟨_, (true), (by first | rfl | (simp; done) | (simp [*]; done)), H', ⟨by first | omega | exact Nat.le_refl _⟩, ⟨by repeat (first | (with_reducible first | exact HB.out | apply below_alloc | apply pw_below_drewN | apply below_drew1) | exact HB.out)⟩⟩
  ·rw [if_neg c4] at H
   have c4b0 : decide (a1 < 0) = false := decide_eq_false c4
   clear c4
   (first | rw [c4b0] | (simp only [i64_w, i32_w]; rw [c4b0]) | skip)
   have H' := Aside0.mk H
   clear H
   go_wp2
   go_meet
   case rel => exact ⟨_, (decide (a1 > 65536)), (by first | rfl | (simp; done) | (simp [*]; done)), H', ⟨by first | omega | exact Nat.le_refl _⟩, ⟨by repeat (first | (with_reducible first | exact HB.out | apply below_alloc | apply pw_below_drewN | apply below_drew1) | exact HB.out)⟩⟩
 case rest =>
  clear HC3
  try clear c2
  try clear p2
  try clear c4
  try clear c4b0
  obtain ⟨kq, x14_2, rfl, HA, HJ2, HB⟩ := hcut
  cases kq with
  | zero => exact absurd HA.out (by simp [marquetryref14_ReadLengths.j0])
  | succ kj2 =>
   have H := HA.out
   clear HA
   simp only [marquetryref14_ReadLengths.j0] at H
   by_cases c5 : x14_2 = true
   ·subst c5
    have H1 : (some (([] : List ByteArray), 2)) = some (r1, r2) := by rw [if_pos rfl] at H; exact H
    clear H
    have H := H1
    clear H1
    simp only [Option.some.injEq, Prod.mk.injEq] at H
    obtain ⟨rfl, rfl⟩ := H
    go_wp2
    go_ret2
    exact ⟨_, by first | rfl | (simp [errW_none, errW_some] <;> rfl) | (simp [*, errW_none, errW_some] <;> rfl), by first | exact Kd.R_nil _ _ _ _ _ | exact Kd.N_nil _ _ _ _ _ | exact Kd.V_nil _ _ _ _ _ | exact Kd.Q_nil _ _ _ _ _ | exact Kd.S_nil _ _ _ _ _, by repeat (first | (with_reducible first | exact HB.out | apply below_alloc | apply pw_below_drewN | apply below_drew1) | exact HB.out)⟩
   ·replace c5 := Bool.eq_false_iff.mpr c5
    subst c5
    have H1 : ((marquetryref14_begin.f l0 a1).bind fun bt346 => (if bt346.2.2 = 0 then (if bt346.2.1 < (l0.length : Int) then (some (([] : List ByteArray), 7)) else (some (bt346.1, 0))) else (some (([] : List ByteArray), bt346.2.2)))) = some (r1, r2) := by rw [if_neg (show ¬ (false = true) by decide)] at H; exact H
    clear H
    have H := H1
    clear H1
    replace H := Option.bind_eq_some_iff.mp H
    obtain ⟨⟨t346, t347, t348⟩, A60, H⟩ := H
    replace H : (if t348 = 0 then (if t347 < (l0.length : Int) then (some (([] : List ByteArray), 7)) else (some (t346, 0))) else (some (([] : List ByteArray), t348))) = some (r1, r2) := H
    have A6 := Aside0.mk A60
    clear A60
    by_cases c7 : t348 = 0
    ·rw [if_pos c7] at H
     have c7b0 : (t348 == 0) = true := beq_iff_eq.mpr c7
     have c7b1 : (t348 != 0) = false := bne_eq_false_iff_eq.mpr c7
     clear c7
     by_cases c8 : t347 < (l0.length : Int)
     ·rw [if_pos c8] at H
      have c8b0 : decide (t347 < (l0.length : Int)) = true := decide_eq_true c8
      clear c8
      simp only [Option.some.injEq, Prod.mk.injEq] at H
      obtain ⟨rfl, rfl⟩ := H
      go_wp2_with (first | ((with_reducible refine gate_callee (f := 37) rfl ?_); refine goesL_ (some 18) rfl rfl Try.func37 (by kernel_rfl) rfl #[.slice A0 l0.length c0, .int .i64 a1] rfl (by (try simp only [List.map_toArray, List.map_cons, List.map_nil]); first | done | rfl | (simp only [List.length_drop, List.length_take]; rfl)) ?_; (with_reducible refine (marquetryref14_begin.calls _ _ l0 a1 t346 t347 t348 _ ?side1 ?side2 A6.out).mono ?_); (case side1 => repeat (first | exact (Kd.C_below HR0.out HB.out) | (with_reducible refine Kd.C_alloc ?_ _) | (with_reducible refine Kd.C_drewN ?_ _) | (with_reducible refine Kd.C_drew ?_))); (case side2 => exact HC0.out); rintro e w9 ⟨v349, rfl, ho0, hb⟩; refine ⟨_, rfl, ?_⟩; have n0_ := Aside0.mk (Kd.R_lower ho0 (below_size (by repeat (first | (with_reducible first | exact HB.out | apply below_alloc | apply pw_below_drewN | apply below_drew1) | exact HB.out)))); have n1_ := Aside0.mk (below_step (by repeat (first | (with_reducible first | exact HB.out | apply below_alloc | apply pw_below_drewN | apply below_drew1) | exact HB.out)) hb); clear HB; have HO350 := n0_; have HB := n1_; clear n0_ n1_; (try clear hb); (try clear hb2); (try clear hk); (try clear hi); (try clear ho0)))
      go_ret2
      exact ⟨_, by first | rfl | (simp [errW_none, errW_some] <;> rfl) | (simp [*, errW_none, errW_some] <;> rfl), by first | exact Kd.R_nil _ _ _ _ _ | exact Kd.N_nil _ _ _ _ _ | exact Kd.V_nil _ _ _ _ _ | exact Kd.Q_nil _ _ _ _ _ | exact Kd.S_nil _ _ _ _ _, by repeat (first | (with_reducible first | exact HB.out | apply below_alloc | apply pw_below_drewN | apply below_drew1) | exact HB.out)⟩
     ·rw [if_neg c8] at H
      have c8b0 : decide (t347 < (l0.length : Int)) = false := decide_eq_false c8
      clear c8
      simp only [Option.some.injEq, Prod.mk.injEq] at H
      obtain ⟨rfl, rfl⟩ := H
      go_wp2_with (first | ((with_reducible refine gate_callee (f := 37) rfl ?_); refine goesL_ (some 18) rfl rfl Try.func37 (by kernel_rfl) rfl #[.slice A0 l0.length c0, .int .i64 a1] rfl (by (try simp only [List.map_toArray, List.map_cons, List.map_nil]); first | done | rfl | (simp only [List.length_drop, List.length_take]; rfl)) ?_; (with_reducible refine (marquetryref14_begin.calls _ _ l0 a1 t346 t347 t348 _ ?side1 ?side2 A6.out).mono ?_); (case side1 => repeat (first | exact (Kd.C_below HR0.out HB.out) | (with_reducible refine Kd.C_alloc ?_ _) | (with_reducible refine Kd.C_drewN ?_ _) | (with_reducible refine Kd.C_drew ?_))); (case side2 => exact HC0.out); rintro e w10 ⟨v349, rfl, ho0, hb⟩; refine ⟨_, rfl, ?_⟩; have n0_ := Aside0.mk (Kd.R_lower ho0 (below_size (by repeat (first | (with_reducible first | exact HB.out | apply below_alloc | apply pw_below_drewN | apply below_drew1) | exact HB.out)))); have n1_ := Aside0.mk (below_step (by repeat (first | (with_reducible first | exact HB.out | apply below_alloc | apply pw_below_drewN | apply below_drew1) | exact HB.out)) hb); clear HB; have HO350 := n0_; have HB := n1_; clear n0_ n1_; (try clear hb); (try clear hb2); (try clear hk); (try clear hi); (try clear ho0)))
      go_ret2
      exact ⟨_, by first | rfl | (simp [errW_none, errW_some] <;> rfl) | (simp [*, errW_none, errW_some] <;> rfl), by (with_reducible repeat (first | apply Kd.R_alloc | apply Kd.R_drewN | apply Kd.R_drew)); exact HO350.out, by repeat (first | (with_reducible first | exact HB.out | apply below_alloc | apply pw_below_drewN | apply below_drew1) | exact HB.out)⟩
    ·rw [if_neg c7] at H
     have c7b0 : (t348 == 0) = false := beq_eq_false_iff_ne.mpr c7
     have c7b1 : (t348 != 0) = true := bne_iff_ne.mpr c7
     simp only [Option.some.injEq, Prod.mk.injEq] at H
     obtain ⟨rfl, rfl⟩ := H
     go_wp2_with (first | ((with_reducible refine gate_callee (f := 37) rfl ?_); refine goesL_ (some 18) rfl rfl Try.func37 (by kernel_rfl) rfl #[.slice A0 l0.length c0, .int .i64 a1] rfl (by (try simp only [List.map_toArray, List.map_cons, List.map_nil]); first | done | rfl | (simp only [List.length_drop, List.length_take]; rfl)) ?_; (with_reducible refine (marquetryref14_begin.calls _ _ l0 a1 t346 t347 t348 _ ?side1 ?side2 A6.out).mono ?_); (case side1 => repeat (first | exact (Kd.C_below HR0.out HB.out) | (with_reducible refine Kd.C_alloc ?_ _) | (with_reducible refine Kd.C_drewN ?_ _) | (with_reducible refine Kd.C_drew ?_))); (case side2 => exact HC0.out); rintro e w11 ⟨v349, rfl, ho0, hb⟩; refine ⟨_, rfl, ?_⟩; have n0_ := Aside0.mk (Kd.R_lower ho0 (below_size (by repeat (first | (with_reducible first | exact HB.out | apply below_alloc | apply pw_below_drewN | apply below_drew1) | exact HB.out)))); have n1_ := Aside0.mk (below_step (by repeat (first | (with_reducible first | exact HB.out | apply below_alloc | apply pw_below_drewN | apply below_drew1) | exact HB.out)) hb); clear HB; have HO350 := n0_; have HB := n1_; clear n0_ n1_; (try clear hb); (try clear hb2); (try clear hk); (try clear hi); (try clear ho0)))
     go_ret2
     exact ⟨_, by first | rfl | (simp [errW_none, errW_some] <;> rfl) | (simp [*, errW_none, errW_some] <;> rfl), by first | exact Kd.R_nil _ _ _ _ _ | exact Kd.N_nil _ _ _ _ _ | exact Kd.V_nil _ _ _ _ _ | exact Kd.Q_nil _ _ _ _ _ | exact Kd.S_nil _ _ _ _ _, by repeat (first | (with_reducible first | exact HB.out | apply below_alloc | apply pw_below_drewN | apply below_drew1) | exact HB.out)⟩
end Go.Proofs.Ytcdephhplmcmjaa.X
end

section
namespace Go.Proofs.Ytcdephhplmcmjaa.X
open Go.RowKit Go.Proofs.YtcdephhplmcmjaaW.PrintWords Go.Proofs.YtcdephhplmcmjaaW.PrintLast Go.Proofs.YtcdephhplmcmjaaW.PrintMore
set_option linter.unusedVariables false
set_option linter.unusedSimpArgs false
theorem snoc_at (l : List Int) : rd (l ++ [77]) (l.length : Int) = 77 := by
  rw [D13.rd_lt _ _ (by simp)]
  simp
def LentB (w : World) (A : Option Addr) (c : Nat) (l : List Int) (W : World) : Prop := Kd.C (Kd.int .u8) W A (l ++ [77]).length (l ++ [77]) ∧ l.length + 1 ≤ c ∧ Kd.C (Kd.int .u8) W A l.length l
theorem LentB.keep {w : World} {A : Option Addr} {c : Nat} {l : List Int} {W W' : World} (h : LentB w A c l W) (hb : Below W.heap.size W W') : LentB w A c l W' := ⟨Kd.C_below h.1 hb, h.2.1, Kd.C_below h.2.2 hb⟩
theorem slice_up {P : Program} {t e : TypeId} {i : TypeInfo} (ht : P.underlying t = some (.slice e)) (hi : P.info? e = some i) (hsz : i.size = 1) (A : Option Addr) (n c m : Nat) (hm : m ≤ c) (W : World) : (Instr.slice t (.slice A n c) none (some (.int .i64 (m : Int))) none).run P W = .ok (.slice A m c) W := by
  have hel : P.elem t = e := by simp [Program.elem, ht]
  have hu : P.underlying t = some (.slice (P.elem t)) := by rw [hel]; exact ht
  have ha : (A.map fun x => x.add 0) = A := by cases A <;> simp [Addr.add]
  rw [run_slice_h W t A n c hu .i64 (m : Int) (by omega) (by omega), hel]
  simp [sizeOf, typeInfo, hi, hsz, sliced, Result.andThen, ha]
theorem lentB_end {w w3 : World} {v3 : Value} {l : List Int} (ho3 : w3.ownsRow w.heap.size 5 1 v3 (l ++ [77]).length (nums .u8 (l ++ [77]))) (hl : l.length ≤ 1000000) : ∃ A c, v3 = .slice A (l.length + 1) c ∧ LentB w A c l w3 ∧ ∀ W : World, (Instr.slice 25 (.slice A (l.length + 1) c) none (some (.int .i64 (l.length : Int))) none).run Try.prog W = .ok (.slice A l.length c) W := by
  obtain ⟨A3, c3, rfl⟩ := own_formD ho3
  obtain ⟨k1, k2, k3⟩ := Kd.R_reads' (Kd.R_of_own (enc := Value.int .u8) (h1 := fun _ => rfl) (ok := fun _ => True) ho3 (fun _ _ => trivial))
  have hlen : (l ++ [77]).length = l.length + 1 := by simp
  obtain ⟨i0, hi0, _, hsz, _⟩ := info_parts info5
  obtain ⟨htake, hTd, hT1⟩ := print_take_of (P := Try.prog) (Value.int .u8) 0 25 5 .i64 Try.underlying25 hi0 hsz A3 c3 (l ++ [77]) l.length (by omega) (by omega) k2
  rw [Int.toNat_natCast, List.take_left] at htake hTd
  refine ⟨A3, c3, by rw [hlen], ⟨k3, by omega, Kd.C_of_reads (h1 := fun _ => rfl) (hTd _ (Kd.reads_of_C k3))⟩, fun W => ?_⟩
  have := htake W
  rwa [hlen] at this
set_option maxRecDepth 100000 in
set_option maxHeartbeats 4000000 in
theorem lentB (A0 : Option Addr) (c0 : Nat) (l : List Int) (w : World) (hC : Kd.C (Kd.int .u8) w A0 l.length l) (hc : l.length ≤ c0) (hl : l.length ≤ 100000) :
    Calls Try.prog 18 #[.slice A0 l.length c0] w fun e w' => ∃ A c, e = .returned (.slice A l.length c) ∧ LentB w A c l w' ∧ Below w.heap.size w w' := by
  have HC := Aside0.mk hC
  have HB := Aside0.mk (Below.refl w.heap.size w)
  clear hC
  go_enter Try.func18, Try.ntmps18
  go_wp2_with (first
    | ((with_reducible refine gate_dst (N := 3) rfl ?_); refine Kd.R_lit (Kd.int .u8) _ 5 ?hg (N := 3) ?hd (xs := ([] : List Int)) (inner := []) (ok := fun _ => True) (okp := fun _ => True) ?hr ?hp (fun _ hk => hk) trivial (Below.refl _ _) (Nat.le_refl _) (by simp) ?_; (case hd => rfl); (case hg => rfl); (case hr => first | (go_simp; done) | (go_simp; rfl)); (case hp => exact (Reps.none _ _)); intro v1 w1 ho1 hb1 hg_ hnew_; clear hg_ hnew_; have HO1 := Aside0.mk (Kd.own_of_R (enc := Value.int .u8) (h1 := fun _ => rfl) (Kd.R_lower ho1 (Nat.le_refl w.heap.size))); have HB1 := Aside0.mk hb1; have HC1 := Aside0.mk (Kd.C_below HC.out hb1); have HS1 := Aside0.mk hb1.size; clear ho1 hb1)
    | ((with_reducible refine gate_builtin (b := .append) (xs := #[.tmp 3, .tmp 4]) rfl ?_); at_builtin; refine print_append_row (w0 := w) w.heap.size rfl (.tmp 3) (.tmp 4) 25 5 .u8 1 rfl Try.underlying25 dg_info (by decide) _ [] l A0 l.length c0 rfl rfl HO1.out (Kd.reads_of_C HC1.out) HB1.out HS1.out (by simp; omega) ?_; intro v2 w2 ho2 hb2 hg2 hat2; rw [List.nil_append] at ho2; have HO2 := Aside0.mk ho2; have HB2 := Aside0.mk hb2; have HS2 := Aside0.mk hb2.size; clear ho2 hb2 hg2 hat2)
    | ((with_reducible refine gate_builtin (b := .append) (xs := #[.tmp 5, .tmp 6]) rfl ?_); at_builtin; refine print_append_num (w0 := w) w.heap.size rfl (.tmp 5) (.tmp 6) 25 5 .u8 1 rfl Try.underlying25 dg_info (by decide) v2 l 77 rfl rfl HO2.out HB2.out HS2.out (by omega) ?_; intro v3 w3 ho3 hb3 hg3 hat3; obtain ⟨A3, c3, rfl, hL3, htk3⟩ := lentB_end ho3 (by omega); have HL3 := Aside0.mk hL3; have HB3 := Aside0.mk hb3; clear ho3 hb3 hg3 hat3 hL3))
  clear HO2 HO1
  all_goals skip
  go_ret
  exact ⟨A3, c3, rfl, HL3.out, HB3.out⟩
set_option maxRecDepth 100000 in
set_option maxHeartbeats 4000000 in
theorem keptB (A : Option Addr) (c : Nat) (A0 : Option Addr) (c0 : Nat) (l : List Int) (w0 w : World) (hL : LentB w0 A c l w) (hC : Kd.C (Kd.int .u8) w A0 l.length l) (hc : l.length ≤ c0) (hl : l.length ≤ 100000) :
    Calls Try.prog 21 #[.slice A l.length c, .slice A0 l.length c0] w fun e w' => e = .returned (.bool true) ∧ Below w.heap.size w w' := by
  obtain ⟨h1, h2, h3⟩ := hL
  have cv1 : (convert 25 9 (.slice A l.length c)).run Try.prog w = .ok (.string (strOfNums l)) w := Kd.C_string Try.underlying25 Try.underlying5 Try.underlying9 h3
  have cv2 : (convert 25 9 (.slice A0 l.length c0)).run Try.prog w = .ok (.string (strOfNums l)) w := Kd.C_string Try.underlying25 Try.underlying5 Try.underlying9 hC
  obtain ⟨i0, hi0, _, hsz, _⟩ := info_parts info5
  have hsl := slice_up (P := Try.prog) Try.underlying25 hi0 hsz A l.length c (l.length + 1) h2
  have hw1 : IntKind.i64.wrap ((l.length : Int) + 1) = ((l.length + 1 : Nat) : Int) := by rw [IntWalk.i64_in _ (by omega)]; omega
  obtain ⟨m, hm⟩ : ∃ m, m = l.length + 1 := ⟨_, rfl⟩
  rw [← hm] at hsl hw1
  have p1 : (0 : Int) ≤ (l.length : Int) := by omega
  have p2 : (l.length : Int) < (m : Int) := by omega
  have p3 : ((l.length : Int)).toNat = l.length := rfl
  obtain ⟨ad, rfl, hcell⟩ := c_at h1 (l.length : Int) (by omega) (by simp; omega)
  rw [snoc_at, p3] at hcell
  obtain ⟨ls, hls⟩ : ∃ ls, ls = strOfNums l := ⟨_, rfl⟩
  rw [← hls] at cv1 cv2
  clear hi0 hsz h1 h2 h3 hC hm hls
  go_enter Try.func21, Try.ntmps21
  go_wp2
  go_ret
  exact ⟨rfl, Below.refl _ _⟩
end Go.Proofs.Ytcdephhplmcmjaa.X
end

section
namespace Go.Proofs.Ytcdephhplmcmjaa.X
open Go.RowKit Go.Proofs.YtcdephhplmcmjaaW.PrintWords Go.Proofs.YtcdephhplmcmjaaW.PrintLast Go.Proofs.YtcdephhplmcmjaaW.PrintMore
set_option linter.unusedVariables false
set_option linter.unusedSimpArgs false
theorem ref_begin14 {b : List Int} (hu : ∀ x ∈ b, 0 ≤ x ∧ x ≤ 255) (hl : b.length ≤ 6000) (count : Int) : marquetryref14_begin.f b count = some (rbT b (textsT count b)) := by
  unfold marquetryref14_begin.f
  rw [if_pos ⟨u8All_iff.2 hu, hl⟩]
theorem ref_lengths14 {k : Nat} (hk : 1 ≤ k) {b : List Int} (hu : ∀ x ∈ b, 0 ≤ x ∧ x ≤ 255) (hl : b.length ≤ 6000) (count : Int) : marquetryref14_ReadLengths.f k b count = some (readT count (textsT count b)) := by
  obtain ⟨k, rfl⟩ : ∃ j, k = j + 1 := ⟨k - 1, by omega⟩
  unfold marquetryref14_ReadLengths.f readT
  by_cases c : count < 0
  · rw [if_pos c, if_pos (.inl c), marquetryref14_ReadLengths.j0, if_pos rfl]
  · rw [if_neg c]
    by_cases c2 : count > 65536
    · rw [if_pos (.inr c2), decide_eq_true c2, marquetryref14_ReadLengths.j0, if_pos rfl]
    · rw [if_neg (by omega), decide_eq_false c2, marquetryref14_ReadLengths.j0, if_neg (by decide), ref_begin14 hu hl, Option.bind_some]
      cases ht : textsT count b with
      | error x =>
        have := textsT_err ht
        unfold rbT
        simp only []
        rw [if_neg this]
      | ok p =>
        obtain ⟨l, r⟩ := p
        have := (textsT_len ht).2.1
        unfold rbT
        simp only [if_true]
        by_cases c3 : r.length = 0
        · rw [if_neg (by omega), if_pos c3]
        · rw [if_pos (by omega), if_neg c3]
end Go.Proofs.Ytcdephhplmcmjaa.X
end

section
namespace Go.Proofs.Ytcdephhplmcmjaa.X
open Go.RowKit Go.Proofs.YtcdephhplmcmjaaW.PrintWords Go.Proofs.YtcdephhplmcmjaaW.PrintLast Go.Proofs.YtcdephhplmcmjaaW.PrintMore
set_option linter.unusedVariables false
set_option linter.unusedSimpArgs false
theorem tg_long (A : Option Addr) (c : Nat) (b : List Int) (count : Int) (w : World) (hc : b.length ≤ c) (hl : 3000 < b.length) :
    Calls Try.prog 4 #[.slice A b.length c, .int .i64 count] w fun e w' => e = .returned (.bool true) ∧ Below w.heap.size w w' := by
  have h1b : decide ((b.length : Int) > 3000) = true := decide_eq_true (by omega)
  clear hl
  go_enter Try.func4, Try.ntmps4
  go_wp2_with fail
  refine (works14_true _).mono ?_
  rintro e W3 ⟨rfl, hb3⟩
  have HB3 := Aside0.mk hb3
  clear hb3
  go_wp2
  go_ret
  exact ⟨rfl, HB3.out⟩
set_option maxRecDepth 100000 in
set_option maxHeartbeats 4000000 in
theorem tg_main (A : Option Addr) (c : Nat) (b : List Int) (l : List ByteArray) (y x : Int) (w : World) (hC : Kd.C (Kd.int .u8) w A b.length b) (hc : b.length ≤ c) (hl : b.length ≤ 3000) (hu : ∀ x ∈ b, 0 ≤ x ∧ x ≤ 255) (hr : readT y (textsT y b) = (l, x)) (hll : l.length ≤ 65536) :
    Calls Try.prog 4 #[.slice A b.length c, .int .i64 y] w fun e w' => e = .returned (.bool true) ∧ Below w.heap.size w w' := by
  have h1b : decide ((b.length : Int) > 3000) = false := decide_eq_false (by omega)
  have HL := Aside0.mk (lentB A c b w hC hc (by omega))
  have HC := Aside0.mk hC
  have HBL := Aside0.mk hl
  have HW := Aside0.mk (fun (W : World) (Al : Option Addr) (cl : Nat) (h : Kd.C (Kd.int .u8) W Al b.length b) (hcl : b.length ≤ cl) => strings_ReadLengths.calls Al cl b y l x W h hcl ((fReadLengths hu (by omega) y).trans (congrArg some hr)))
  have HR := Aside0.mk (fun (W : World) (Al : Option Addr) (cl : Nat) (h : Kd.C (Kd.int .u8) W Al b.length b) (hcl : b.length ≤ cl) => marquetryref14_ReadLengths.calls 1 Al cl b y l x W h hcl ((ref_lengths14 (k := 1) (by decide) hu (by omega) y).trans (congrArg some hr)))
  have HS := Aside0.mk (fun (W : World) (A1 : Option Addr) (c1 : Nat) (A2 : Option Addr) (c2 : Nat) (h1 : Kd.C Kd.string W A1 l.length l) (h2 : Kd.C Kd.string W A2 l.length l) (hc1 : l.length ≤ c1) (hc2 : l.length ≤ c2) => marquetrylaw14_same.calls 100001 A1 c1 l A2 c2 l true W h1 hc1 h2 hc2 (sameS (by omega) (by omega)))
  have NS := Aside0.mk num14_same
  have WT := Aside0.mk works14_true
  clear hC hu hr hl hll
  go_enter Try.func4, Try.ntmps4
  go_wp2_with fail
  refine HL.out.mono ?_
  rintro e W1 ⟨A1, c1, rfl, hL1, hb1⟩
  have HL1 := Aside0.mk hL1
  have HB1 := Aside0.mk hb1
  clear hL1 hb1
  go_wp2_with fail
  refine (HW.out W1 A1 c1 HL1.out.2.2 (by have := HL1.out.2.1; omega)).mono ?_
  rintro e W2 ⟨v2, rfl, hR2, hb2⟩
  obtain ⟨A2, c2, rfl, hc2, hC2⟩ := Kd.R_reads hR2
  have HB2 := Aside0.mk (below_then HB1.out HB1.out.size hb2)
  have HC2 := Aside0.mk hC2
  have HL2 := Aside0.mk (HL1.out.keep hb2)
  have Hc2 := Aside0.mk hc2
  clear hR2 hb2 hC2 hc2
  go_wp2_with fail
  refine (HR.out W2 A c (Kd.C_below HC.out HB2.out) hc).mono ?_
  rintro e W3 ⟨v3, rfl, hR3, hb3⟩
  obtain ⟨A3, c3, rfl, hc3, hC3⟩ := Kd.R_reads hR3
  have HB3 := Aside0.mk (below_then HB2.out HB2.out.size hb3)
  have HL3 := Aside0.mk (HL2.out.keep hb3)
  have HC3 := Aside0.mk hC3
  have HC23 := Aside0.mk (Kd.C_below HC2.out hb3)
  have Hc3 := Aside0.mk hc3
  clear hR3 hb3 hC3 hc3
  go_wp2_with fail
  refine (HS.out W3 A2 c2 A3 c3 HC23.out HC3.out Hc2.out Hc3.out).mono ?_
  rintro e W4 ⟨rfl, ⟨nd4, hW4⟩⟩
  have HB4 := Aside0.mk (show Below w.heap.size w W4 from (by rw [hW4]; exact pw_below_drewN HB3.out _))
  have HL4 := Aside0.mk (show LentB w A1 c1 b W4 from (by rw [hW4]; exact HL3.out.keep (pw_below_drewN (Below.refl _ _) _)))
  clear hW4
  go_wp2_with fail
  refine (NS.out _ _).mono ?_
  rintro e W5 ⟨rfl, ⟨nd5, hW5⟩⟩
  have HB5 := Aside0.mk (show Below w.heap.size w W5 from (by rw [hW5]; exact pw_below_drewN HB4.out _))
  have HL5 := Aside0.mk (show LentB w A1 c1 b W5 from (by rw [hW5]; exact HL4.out.keep (pw_below_drewN (Below.refl _ _) _)))
  clear hW5
  go_wp2_with fail
  refine (keptB A1 c1 A c b w W5 HL5.out (Kd.C_below HC.out HB5.out) hc (by have := HBL.out; omega)).mono ?_
  rintro e W6 ⟨rfl, hb6⟩
  have HB6 := Aside0.mk (below_then HB5.out HB5.out.size hb6)
  clear hb6
  go_wp2_with fail
  refine (WT.out _).mono ?_
  rintro e W7 ⟨rfl, hb7⟩
  have HB7 := Aside0.mk (below_then HB6.out HB6.out.size hb7)
  clear hb7
  go_wp2
  go_ret
  exact ⟨rfl, HB7.out⟩
theorem tg_len (count : Int) (b : List Int) (hu : ∀ x ∈ b, 0 ≤ x ∧ x ≤ 255) : (readT count (textsT count b)).1.length ≤ 65536 := by
  rcases readT_way count (textsT count b) (fun x h => textsT_err h) with ⟨l, e1, r1⟩ | ⟨x, hx, r1⟩ <;> rw [r1]
  · have := (longZ_no (again_l hu e1).2.2).2
    exact this
  · simp
theorem tg_all (A : Option Addr) (c : Nat) (b : List Int) (count : Int) (w : World) (hC : Kd.C (Kd.int .u8) w A b.length b) (hc : b.length ≤ c) (hu : ∀ x ∈ b, 0 ≤ x ∧ x ≤ 255) :
    Calls Try.prog 4 #[.slice A b.length c, .int .i64 count] w fun e w' => e = .returned (.bool true) ∧ Below w.heap.size w w' := by
  by_cases hl : 3000 < b.length
  · exact tg_long A c b count w hc hl
  · exact tg_main A c b _ count _ w hC hc (by omega) hu rfl (tg_len count b hu)
end Go.Proofs.Ytcdephhplmcmjaa.X
end

section
namespace Go.Proofs.Ytcdephhplmcmjaa.X
open Go.RowKit Go.Proofs.YtcdephhplmcmjaaW.PrintWords Go.Proofs.YtcdephhplmcmjaaW.PrintLast Go.Proofs.YtcdephhplmcmjaaW.PrintMore
attribute [local go_sem] max2_int min2_int max_two min_two max_three min_three max_four min_four
set_option linter.unusedVariables false
set_option linter.unusedSimpArgs false
def marquetrylaw14_StringsLengths.f (l0 : List Int) (a1 : Int) : Option Bool := if u8All l0 = true then some true else none
theorem marquetrylaw14_StringsLengths.calls (A0 : Option Addr) (c0 : Nat) (l0 : List Int) (a1 : Int) (r : Bool) (w : World) (hr0 : Kd.C (Kd.int .u8) w A0 l0.length l0) (hc0 : l0.length ≤ c0) (h : marquetrylaw14_StringsLengths.f l0 a1 = some r) :
    Calls Try.prog 4 #[.slice A0 l0.length c0, .int .i64 a1] w fun e w' => e = .returned (.bool r) ∧ Below w.heap.size w w' := by
  unfold marquetrylaw14_StringsLengths.f at h
  by_cases hu : u8All l0 = true
  · rw [if_pos hu] at h
    obtain rfl := Option.some.inj h
    exact tg_all A0 c0 l0 a1 w hr0 hc0 (u8All_iff.1 hu)
  · rw [if_neg hu] at h; cases h
def marquetrylaw14_StringsLengths.Pure : Prop := ∀ (l0 : List Int) (a1 : Int), ((∀ x_ ∈ l0, (Lit.int .u8 x_).wf = true) ∧ l0.length ≤ maxLen ∧ l0.length * 1 ≤ 140737488351232) → (Lit.int .i64 a1).wf = true → marquetrylaw14_StringsLengths.f l0 a1 = some true
end Go.Proofs.Ytcdephhplmcmjaa.X
end

section
namespace Go.Proofs.Ytcdephhplmcmjaa.Rd
open Go.ChangeShapes Go.WideShapes Go.Deep Go.RowKit Go.Joins Go.Proofs.YtcdephhplmcmjaaW.PrintWords
structure Opens (P : Program) (t : TypeId) {α : Type} (d : Kd α) (Wf : α → Prop) : Prop where
  opens : ∀ {H : Type} {enc : TypeId × Value → H} {w : World} {base : Nat} {spare : Nat → Bool} {held : Bool} {n : Nat} {cs : List Value} {y : DataW H × List MemPlace},
    DataW.trod enc P w base spare held n t cs = some y → (∀ m ∈ y.1.weights P t, m ≤ reachBytes) → ∃ x, d.K w x cs ∧ Wf x
theorem reach_le {m : Nat} (h : m ≤ reachBytes) : m ≤ 140737488351232 := h
theorem opens_int {P : Program} {t : TypeId} {k : IntKind} (hu : P.underlying t = some (.int k)) : Opens P t (Kd.int k) (fun x => (Lit.int k x).wf = true) := by
  refine ⟨fun {H enc w base spare held n cs y} h _ => ?_⟩
  obtain ⟨x, rfl, _, hw⟩ := DataW.trod_int hu h
  exact ⟨x, rfl, hw⟩
theorem list_of {α : Type} {p : Nat → α → Prop} : ∀ (n : Nat), (∀ i, i < n → ∃ x, p i x) → ∃ xs : List α, xs.length = n ∧ ∀ i x, xs[i]? = some x → p i x
  | 0, _ => ⟨[], rfl, fun i x h => by simp at h⟩
  | n + 1, h => by
    obtain ⟨xs, hl, hx⟩ := list_of n (fun i hi => h i (by omega))
    obtain ⟨x, hp⟩ := h n (by omega)
    refine ⟨xs ++ [x], by simp [hl], fun i y hy => ?_⟩
    rcases Nat.lt_or_ge i xs.length with hi | hi
    · rw [List.getElem?_append_left hi] at hy; exact hx i y hy
    · have hi' : i = xs.length := by
        have := (List.getElem?_eq_some_iff.1 hy).1
        simp at this; omega
      subst hi'
      have : x = y := by simpa using hy
      subst this
      rw [hl]; exact hp
theorem weights_all {H : Type} {P : Program} {e : TypeId} : ∀ (ds : List (DataW H)) (d : DataW H), d ∈ ds → ∀ m ∈ d.weights P e, m ∈ DataW.weightsAll P e ds
  | [], d, h, _, _ => by simp at h
  | d0 :: ds, d, h, m, hm => by
    simp only [DataW.weightsAll, List.mem_append]
    rcases List.mem_cons.1 h with rfl | h
    · exact .inl hm
    · exact .inr (weights_all ds d h m hm)
theorem opens_slice {P : Program} {t e : TypeId} {α : Type} {d : Kd α} {Wf : α → Prop} {B : Nat} (hu : P.underlying t = some (.slice e)) (hsz : P.cellsOf e = d.sz) (hB : P.bytesOf e = B) (ho : Opens P e d Wf) :
    Opens P t (Kd.slice e d) (fun xs => (∀ x ∈ xs, Wf x) ∧ xs.length ≤ maxLen ∧ xs.length * B ≤ 140737488351232) := by
  refine ⟨fun {H enc w base spare held n cs y} h hw => ?_⟩
  rcases open_slice hu h with ⟨rfl, _⟩ | ⟨a, len, cap, m, n', D, Pl, rfl, hb, hl, hm, hmm, rfl, hx⟩
  · exact ⟨[], ⟨none, 0, rfl, Nat.le_refl _, rfl, Nat.zero_le _, fun h => absurd h (by simp)⟩, by simp⟩
  · have hlm : len ≤ m := by rw [hmm]; split <;> omega
    have hsize : len * B ≤ 140737488351232 := by
      have := hw ((((List.range len).map D).length + ((List.range (m - len)).map fun j => D (len + j)).length) * P.bytesOf e) (by simp [DataW.weights, hu])
      rw [hB] at this
      refine Nat.le_trans (Nat.mul_le_mul_right _ ?_) (reach_le this)
      simp
    obtain ⟨xs, hxl, hxs⟩ := list_of (p := fun i x => ∃ cs', w.cells? base (a.add (i * P.cellsOf e)) (P.cellsOf e) = some cs' ∧ d.K w x cs' ∧ Wf x) len (fun i hi => by
      obtain ⟨cs', h1, h2⟩ := hx i (by omega)
      obtain ⟨x, hk, hwf⟩ := ho.opens h2 (fun q hq => hw q (by
        simp only [DataW.weights, hu, List.mem_cons, List.mem_append]
        exact .inr (.inl (weights_all _ (D i) (List.mem_map.2 ⟨i, List.mem_range.2 hi, rfl⟩) q hq))))
      exact ⟨x, cs', h1, hk, hwf⟩)
    subst hxl
    refine ⟨xs, ⟨some a, cap, rfl, hl, rfl, ?_, fun _ => ⟨a, rfl, fun j p hp => ?_⟩⟩, ⟨fun x hx' => ?_, Nat.le_trans hl hm, hsize⟩⟩
    · unfold maxLen at hm; omega
    · obtain ⟨cs', h1, hk, _⟩ := hxs j p hp
      obtain ⟨_, hcl, hcc⟩ := World.cells?_some h1
      refine ⟨cs', by rw [hcl, hsz], hk, fun i u hiu => ?_⟩
      have hi : i < P.cellsOf e := by rw [← hcl]; exact (List.getElem?_eq_some_iff.1 hiu).1
      rw [← hsz, ← Go.Deep.add_add, hcc i hi]
      exact hiu
    · obtain ⟨i, hi⟩ := List.getElem?_of_mem hx'
      exact (hxs i x hi).choose_spec.2.2
theorem one_of {P : Program} {fs : Array Field} (hone : oneCellFields P fs = true) {j : Nat} {f : Field} (h : fs.toList[j]? = some f) : f.offset = j ∧ P.cellsOf f.type = 1 := hone_of hone j f (by simpa using h)
theorem opens_arg {P : Program} {t : TypeId} {α : Type} {d : Kd α} {Wf : α → Prop} (ho : Opens P t d Wf) {H : Type} {enc : TypeId × Value → H} {w : World} {base : Nat} {spare : Nat → Bool} {held : Bool} {v : Value} {dt : DataW H} {p : List MemPlace}
    (h : DataW.Trod enc P w base spare held t v dt p) {ts : List TypeId} {ds : List (DataW H)} {j : Nat} (hsz : (DataW.weightsEach P ts ds).all (· ≤ reachBytes) = true) (ht : ts[j]? = some t) (hd : ds[j]? = some dt) : ∃ x, d.K w x v.cells.toList ∧ Wf x := by
  obtain ⟨n, hn⟩ := h
  refine ho.opens hn (fun m hm => ?_)
  have := List.all_eq_true.1 hsz m (DataW.weights_mem_each ht hd m hm)
  simpa using this
end Go.Proofs.Ytcdephhplmcmjaa.Rd
end
