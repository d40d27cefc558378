/- StringsCommon: texts of this seat in one (wip/merge.py): X48, Ta, Tb, Rd. -/
import Derived.Test.YtcdephhplmcmjaaGStringsCommon0
import Derived.Test.YtcdephhplmcmjaaGStringsCommon3
import Derived.Test.YtcdephhplmcmjaaGStringsCommon2
import Derived.Deep.Slices
import Derived.Lib.SmallJoins
import Derived.SizedLaws
section
namespace Go.Proofs.Ytcdephhplmcmjaa.X
open Go.RowKit Go.Proofs.YtcdephhplmcmjaaW.PrintWords Go.Proofs.YtcdephhplmcmjaaW.PrintLast Go.Proofs.YtcdephhplmcmjaaW.PrintMore
attribute [local go_sem] max2_int min2_int max_two min_two max_three min_three max_four min_four
set_option linter.unusedVariables false
set_option linter.unusedSimpArgs false
def marquetrylaw14_StringsCommon.j0 : Nat → ByteArray → ByteArray → Bool → Option (Bool)
 | 0, _, _, _ => none
 | k + 1, x0, x1, x13 => if x13 = true then ((marquetrylaw14_works.f k).bind fun t411 => (some t411)) else ((strings_Common.f x0 x1).bind fun t412 => ((marquetryref14_Common.f k x0 x1).bind fun t413 => (if t412 = t413 then ((strings_Common.f x1 x0).bind fun t414 => (if t414 = t412 then ((marquetrylaw14_works.f k).bind fun t415 => (some t415)) else (some false))) else (some false))))
def marquetrylaw14_StringsCommon.f (k : Nat) (a0 : ByteArray) (a1 : ByteArray) : Option (Bool) := if (a0.size : Int) > 10000 then (marquetrylaw14_StringsCommon.j0 k a0 a1 true) else (marquetrylaw14_StringsCommon.j0 k a0 a1 (decide ((a1.size : Int) > 10000)))
theorem marquetrylaw14_StringsCommon.mono_l : ∀ k, (∀ y0 y1 y2, LeO (marquetrylaw14_StringsCommon.j0 k y0 y1 y2) (marquetrylaw14_StringsCommon.j0 (k + 1) y0 y1 y2))
 | 0 => fun _ _ _ r h => by simp [marquetrylaw14_StringsCommon.j0] at h
 | k + 1 => by
  have ih0 := marquetrylaw14_StringsCommon.mono_l k
  ·intro y0 y1 y2
   unfold marquetrylaw14_StringsCommon.j0
   repeat' first
   | (with_reducible exact ih0 _ _ _)
   | (with_reducible exact marquetrylaw14_works.mono _)
   | (with_reducible exact marquetryref14_Common.mono _ _ _)
   | (with_reducible exact LeO.refl _)
   | (with_reducible exact LeO.none _)
   | (with_reducible refine LeO.ite ?_ ?_)
   | (with_reducible refine LeO.bind ?_ (fun _ => ?_))
   | exact ih0 _ _ _
   | exact marquetrylaw14_works.mono _
   | exact marquetryref14_Common.mono _ _ _
   | exact LeO.none _
   | refine LeO.ite ?_ ?_
   | refine LeO.bind ?_ (fun _ => ?_)
theorem marquetrylaw14_StringsCommon.mono : ∀ a0 a1 k, LeO (marquetrylaw14_StringsCommon.f k a0 a1) (marquetrylaw14_StringsCommon.f (k + 1) a0 a1) := by
 intro a0 a1 k
 have ih0 := marquetrylaw14_StringsCommon.mono_l k
 unfold marquetrylaw14_StringsCommon.f
 repeat' first
   | (with_reducible exact ih0 _ _ _)
   | (with_reducible exact marquetrylaw14_works.mono _)
   | (with_reducible exact marquetryref14_Common.mono _ _ _)
   | (with_reducible exact LeO.refl _)
   | (with_reducible exact LeO.none _)
   | (with_reducible refine LeO.ite ?_ ?_)
   | (with_reducible refine LeO.bind ?_ (fun _ => ?_))
   | exact ih0 _ _ _
   | exact marquetrylaw14_works.mono _
   | exact marquetryref14_Common.mono _ _ _
   | exact LeO.none _
   | refine LeO.ite ?_ ?_
   | refine LeO.bind ?_ (fun _ => ?_)
set_option maxHeartbeats 8000000 in
set_option maxRecDepth 100000 in
theorem marquetrylaw14_StringsCommon.calls (k : Nat) (a0 : ByteArray) (a1 : ByteArray) (r : Bool) (w : World) (h : marquetrylaw14_StringsCommon.f k a0 a1 = some r) :
  Calls Try.prog 6 #[.string a0, .string a1] w fun e w' => e = .returned (.bool r) ∧ Below w.heap.size w w' := by
 have HB := Aside0.mk (Below.refl w.heap.size w)
 have H : (if (a0.size : Int) > 10000 then (marquetrylaw14_StringsCommon.j0 k a0 a1 true) else (marquetrylaw14_StringsCommon.j0 k a0 a1 (decide ((a1.size : Int) > 10000)))) = some r := h
 clear h
 have HC3 := Aside0.mk H
 clear H
 go_enter Try.func6, Try.ntmps6
 go_upto_region 1 with (fail)
 go_cut [13] (fun v13 wc => ∃ (kq : Nat) (x13_2 : Bool), v13 = .bool x13_2 ∧ Aside0 (marquetrylaw14_StringsCommon.j0 kq a0 a1 x13_2 = some r) ∧ Aside0 (kq ≤ k) ∧ Aside0 (Below w.heap.size w wc))
 case first =>
  have H := HC3.out
  clear HC3
  by_cases c4 : (a0.size : Int) > 10000
  ·rw [if_pos c4] at H
   have c4b0 : decide (10000 < (a0.size : Int)) = true := decide_eq_true c4
   have c4b1 : decide (10000 < a0.size) = true := decide_eq_true (by omega)
   clear c4
   (first | rw [c4b0] | (simp only [i64_w, i32_w]; rw [c4b0]) | skip)
   have H' := Aside0.mk H
   clear H
   go_wp2
   go_meet
   case rel => exact ⟨_, (true), (by first | rfl | (simp; done) | (simp [*]; done)), H', ⟨by first | omega | exact Nat.le_refl _⟩, ⟨by repeat (first | (with_reducible first | exact HB.out | apply below_alloc | apply pw_below_drewN | apply below_drew1) | exact HB.out)⟩⟩
  ·rw [if_neg c4] at H
   have c4b0 : decide (10000 < (a0.size : Int)) = false := decide_eq_false c4
   have c4b1 : decide (10000 < a0.size) = false := decide_eq_false (by omega)
   clear c4
   (first | rw [c4b0] | (simp only [i64_w, i32_w]; rw [c4b0]) | skip)
   have H' := Aside0.mk H
   clear H
   go_wp2
   go_meet
   case rel => exact ⟨_, (decide ((a1.size : Int) > 10000)), (by first | rfl | (simp; done) | (simp [*]; done)), H', ⟨by first | omega | exact Nat.le_refl _⟩, ⟨by repeat (first | (with_reducible first | exact HB.out | apply below_alloc | apply pw_below_drewN | apply below_drew1) | exact HB.out)⟩⟩
 case rest =>
  clear HC3
  try clear p2
  try clear c4
  try clear c4b0
  try clear c4b1
  obtain ⟨kq, x13_2, rfl, HA, HJ2, HB⟩ := hcut
  cases kq with
  | zero => exact absurd HA.out (by simp [marquetrylaw14_StringsCommon.j0])
  | succ kj2 =>
   have H := HA.out
   clear HA
   simp only [marquetrylaw14_StringsCommon.j0] at H
   by_cases c5 : x13_2 = true
   ·subst c5
    have H1 : ((marquetrylaw14_works.f kj2).bind fun t411 => (some t411)) = some r := by rw [if_pos rfl] at H; exact H
    clear H
    have H := H1
    clear H1
    replace H := Option.bind_eq_some_iff.mp H
    obtain ⟨t411, A60, H⟩ := H
    replace H : (some t411) = some r := H
    have A6 := Aside0.mk A60
    clear A60
    obtain rfl := Option.some.inj H
    go_wp2_with (first | ((with_reducible refine gate_callee (f := 11) rfl ?_); refine goesL_ (some 14) rfl rfl Try.func11 (by kernel_rfl) rfl #[] rfl (by (try simp only [List.map_toArray, List.map_cons, List.map_nil]); first | done | rfl | (simp only [List.length_drop, List.length_take]; rfl)) ?_; (with_reducible refine (marquetrylaw14_works.calls kj2  t411 _ A6.out).mono ?_); rintro e w7 ⟨rfl, hb⟩; refine ⟨_, rfl, ?_⟩; have n0_ := Aside0.mk (below_step (by repeat (first | (with_reducible first | exact HB.out | apply below_alloc | apply pw_below_drewN | apply below_drew1) | exact HB.out)) hb); clear HB; have HB := n0_; clear n0_; (try clear hb); (try clear hb2); (try clear hk); (try clear hi)))
    go_ret
    exact ⟨by first | rfl | (simp [errW_none, errW_some] <;> rfl) | (simp [*, errW_none, errW_some] <;> rfl), by repeat (first | (with_reducible first | exact HB.out | apply below_alloc | apply pw_below_drewN | apply below_drew1) | exact HB.out)⟩
   ·replace c5 := Bool.eq_false_iff.mpr c5
    subst c5
    have H1 : ((strings_Common.f a0 a1).bind fun t412 => ((marquetryref14_Common.f kj2 a0 a1).bind fun t413 => (if t412 = t413 then ((strings_Common.f a1 a0).bind fun t414 => (if t414 = t412 then ((marquetrylaw14_works.f kj2).bind fun t415 => (some t415)) else (some false))) else (some false)))) = some r := by rw [if_neg (show ¬ (false = true) by decide)] at H; exact H
    clear H
    have H := H1
    clear H1
    replace H := Option.bind_eq_some_iff.mp H
    obtain ⟨t412, A80, H⟩ := H
    replace H : ((marquetryref14_Common.f kj2 a0 a1).bind fun t413 => (if t412 = t413 then ((strings_Common.f a1 a0).bind fun t414 => (if t414 = t412 then ((marquetrylaw14_works.f kj2).bind fun t415 => (some t415)) else (some false))) else (some false))) = some r := H
    have A8 := Aside0.mk A80
    clear A80
    replace H := Option.bind_eq_some_iff.mp H
    obtain ⟨t413, A90, H⟩ := H
    replace H : (if t412 = t413 then ((strings_Common.f a1 a0).bind fun t414 => (if t414 = t412 then ((marquetrylaw14_works.f kj2).bind fun t415 => (some t415)) else (some false))) else (some false)) = some r := H
    have A9 := Aside0.mk A90
    clear A90
    by_cases c10 : t412 = t413
    ·rw [if_pos c10] at H
     have c10b0 : (t412 == t413) = true := beq_iff_eq.mpr c10
     have c10b1 : (t412 != t413) = false := bne_eq_false_iff_eq.mpr c10
     clear c10
     replace H := Option.bind_eq_some_iff.mp H
     obtain ⟨t414, A110, H⟩ := H
     replace H : (if t414 = t412 then ((marquetrylaw14_works.f kj2).bind fun t415 => (some t415)) else (some false)) = some r := H
     have A11 := Aside0.mk A110
     clear A110
     by_cases c12 : t414 = t412
     ·rw [if_pos c12] at H
      have c12b0 : (t414 == t412) = true := beq_iff_eq.mpr c12
      have c12b1 : (t414 != t412) = false := bne_eq_false_iff_eq.mpr c12
      clear c12
      replace H := Option.bind_eq_some_iff.mp H
      obtain ⟨t415, A130, H⟩ := H
      replace H : (some t415) = some r := H
      have A13 := Aside0.mk A130
      clear A130
      obtain rfl := Option.some.inj H
      go_wp2_with (first | ((with_reducible refine gate_callee (f := 24) rfl ?_); refine goesL_ (some 17) rfl rfl Try.func24 (by kernel_rfl) rfl #[.string a0, .string a1] rfl (by (try simp only [List.map_toArray, List.map_cons, List.map_nil]); first | done | rfl | (simp only [List.length_drop, List.length_take]; rfl)) ?_; (with_reducible refine (strings_Common.calls a0 a1 t412 _ A8.out).mono ?_); rintro e w14 ⟨rfl, hb⟩; refine ⟨_, rfl, ?_⟩; have n0_ := Aside0.mk (below_step (by repeat (first | (with_reducible first | exact HB.out | apply below_alloc | apply pw_below_drewN | apply below_drew1) | exact HB.out)) hb); clear HB; have HB := n0_; clear n0_; (try clear hb); (try clear hb2); (try clear hk); (try clear hi)) | ((with_reducible refine gate_callee (f := 25) rfl ?_); refine goesL_ (some 21) rfl rfl Try.func25 (by kernel_rfl) rfl #[.string a0, .string a1] rfl (by (try simp only [List.map_toArray, List.map_cons, List.map_nil]); first | done | rfl | (simp only [List.length_drop, List.length_take]; rfl)) ?_; (with_reducible refine (marquetryref14_Common.calls kj2 a0 a1 t413 _ A9.out).mono ?_); rintro e w' ⟨rfl, ⟨nd, rfl⟩⟩; refine ⟨_, rfl, ?_⟩) | (go_at_call 24; (with_reducible refine (strings_Common.calls a1 a0 t414 _ A11.out).mono ?_); rintro e w15 ⟨rfl, hb⟩; have n0_ := Aside0.mk (below_step (by repeat (first | (with_reducible first | exact HB.out | apply below_alloc | apply pw_below_drewN | apply below_drew1) | exact HB.out)) hb); clear HB; have HB := n0_; clear n0_; (try clear hb); (try clear hb2); (try clear hk); (try clear hi)) | (go_at_call 11; (with_reducible refine (marquetrylaw14_works.calls kj2  t415 _ A13.out).mono ?_); rintro e w16 ⟨rfl, hb⟩; have n0_ := Aside0.mk (below_step (by repeat (first | (with_reducible first | exact HB.out | apply below_alloc | apply pw_below_drewN | apply below_drew1) | exact HB.out)) hb); clear HB; have HB := n0_; clear n0_; (try clear hb); (try clear hb2); (try clear hk); (try clear hi)))
      go_ret
      exact ⟨by first | rfl | (simp [errW_none, errW_some] <;> rfl) | (simp [*, errW_none, errW_some] <;> rfl), by repeat (first | (with_reducible first | exact HB.out | apply below_alloc | apply pw_below_drewN | apply below_drew1) | exact HB.out)⟩
     ·rw [if_neg c12] at H
      have c12b0 : (t414 == t412) = false := beq_eq_false_iff_ne.mpr c12
      have c12b1 : (t414 != t412) = true := bne_iff_ne.mpr c12
      obtain rfl := Option.some.inj H
      go_wp2_with (first | ((with_reducible refine gate_callee (f := 24) rfl ?_); refine goesL_ (some 17) rfl rfl Try.func24 (by kernel_rfl) rfl #[.string a0, .string a1] rfl (by (try simp only [List.map_toArray, List.map_cons, List.map_nil]); first | done | rfl | (simp only [List.length_drop, List.length_take]; rfl)) ?_; (with_reducible refine (strings_Common.calls a0 a1 t412 _ A8.out).mono ?_); rintro e w17 ⟨rfl, hb⟩; refine ⟨_, rfl, ?_⟩; have n0_ := Aside0.mk (below_step (by repeat (first | (with_reducible first | exact HB.out | apply below_alloc | apply pw_below_drewN | apply below_drew1) | exact HB.out)) hb); clear HB; have HB := n0_; clear n0_; (try clear hb); (try clear hb2); (try clear hk); (try clear hi)) | ((with_reducible refine gate_callee (f := 25) rfl ?_); refine goesL_ (some 21) rfl rfl Try.func25 (by kernel_rfl) rfl #[.string a0, .string a1] rfl (by (try simp only [List.map_toArray, List.map_cons, List.map_nil]); first | done | rfl | (simp only [List.length_drop, List.length_take]; rfl)) ?_; (with_reducible refine (marquetryref14_Common.calls kj2 a0 a1 t413 _ A9.out).mono ?_); rintro e w' ⟨rfl, ⟨nd, rfl⟩⟩; refine ⟨_, rfl, ?_⟩) | (go_at_call 24; (with_reducible refine (strings_Common.calls a1 a0 t414 _ A11.out).mono ?_); rintro e w18 ⟨rfl, hb⟩; have n0_ := Aside0.mk (below_step (by repeat (first | (with_reducible first | exact HB.out | apply below_alloc | apply pw_below_drewN | apply below_drew1) | exact HB.out)) hb); clear HB; have HB := n0_; clear n0_; (try clear hb); (try clear hb2); (try clear hk); (try clear hi)))
      go_ret
      exact ⟨by first | rfl | (simp [errW_none, errW_some] <;> rfl) | (simp [*, errW_none, errW_some] <;> rfl), by repeat (first | (with_reducible first | exact HB.out | apply below_alloc | apply pw_below_drewN | apply below_drew1) | exact HB.out)⟩
    ·rw [if_neg c10] at H
     have c10b0 : (t412 == t413) = false := beq_eq_false_iff_ne.mpr c10
     have c10b1 : (t412 != t413) = true := bne_iff_ne.mpr c10
     obtain rfl := Option.some.inj H
     go_wp2_with (first | ((with_reducible refine gate_callee (f := 24) rfl ?_); refine goesL_ (some 17) rfl rfl Try.func24 (by kernel_rfl) rfl #[.string a0, .string a1] rfl (by (try simp only [List.map_toArray, List.map_cons, List.map_nil]); first | done | rfl | (simp only [List.length_drop, List.length_take]; rfl)) ?_; (with_reducible refine (strings_Common.calls a0 a1 t412 _ A8.out).mono ?_); rintro e w19 ⟨rfl, hb⟩; refine ⟨_, rfl, ?_⟩; have n0_ := Aside0.mk (below_step (by repeat (first | (with_reducible first | exact HB.out | apply below_alloc | apply pw_below_drewN | apply below_drew1) | exact HB.out)) hb); clear HB; have HB := n0_; clear n0_; (try clear hb); (try clear hb2); (try clear hk); (try clear hi)) | ((with_reducible refine gate_callee (f := 25) rfl ?_); refine goesL_ (some 21) rfl rfl Try.func25 (by kernel_rfl) rfl #[.string a0, .string a1] rfl (by (try simp only [List.map_toArray, List.map_cons, List.map_nil]); first | done | rfl | (simp only [List.length_drop, List.length_take]; rfl)) ?_; (with_reducible refine (marquetryref14_Common.calls kj2 a0 a1 t413 _ A9.out).mono ?_); rintro e w' ⟨rfl, ⟨nd, rfl⟩⟩; refine ⟨_, rfl, ?_⟩))
     go_ret
     exact ⟨by first | rfl | (simp [errW_none, errW_some] <;> rfl) | (simp [*, errW_none, errW_some] <;> rfl), by repeat (first | (with_reducible first | exact HB.out | apply below_alloc | apply pw_below_drewN | apply below_drew1) | exact HB.out)⟩
def marquetrylaw14_StringsCommon.Pure : Prop := ∀ (a0 : ByteArray) (a1 : ByteArray), a0.size ≤ 140737488351232 → a1.size ≤ 140737488351232 → ∃ k, marquetrylaw14_StringsCommon.f k a0 a1 = some true
end Go.Proofs.Ytcdephhplmcmjaa.X
end

section
namespace Go.Proofs.Ytcdephhplmcmjaa.X
open Go.RowKit Go.Proofs.YtcdephhplmcmjaaW.PrintWords Go.Proofs.YtcdephhplmcmjaaW.PrintLast Go.Proofs.YtcdephhplmcmjaaW.PrintMore
set_option linter.unusedVariables false
set_option linter.unusedSimpArgs false
theorem ba_eq {a b : ByteArray} (h : a.data.toList = b.data.toList) : a = b := by
  cases a; cases b
  simp only at h
  rw [Array.toList_inj.1 h]
theorem str_bytes (s : ByteArray) : strOfNums (bytesOf s) = s := by
  apply ba_eq
  unfold strOfNums bytesOf
  simp only [List.map_map]
  rw [List.map_congr_left (g := id) (fun b _ => by show UInt8.ofNat ((b.toNat : Int)).toNat = b; rw [Int.toNat_natCast]; exact UInt8.ofNat_toNat)]
  simp
theorem bytesOf_range (s : ByteArray) : ∀ x ∈ bytesOf s, 0 ≤ x ∧ x ≤ 255 := by
  intro x hx
  obtain ⟨b, _, rfl⟩ := List.mem_map.1 hx
  have := b.toNat_lt
  omega
theorem flatZ_range (l : List ByteArray) : ∀ x ∈ flatZ l, 0 ≤ x ∧ x ≤ 255 := by
  intro x hx
  obtain ⟨s, _, hs⟩ := List.mem_flatMap.1 hx
  exact bytesOf_range s x hs
theorem toList_eq {a b : ByteArray} : a.toList = b.toList ↔ a = b := by
  constructor
  · intro h
    rw [ByteArray.toList_eq, ByteArray.toList_eq] at h
    exact ba_eq h
  · intro h; rw [h]
theorem sumT_lens : ∀ (l : List ByteArray) (s : Int), 0 ≤ s → s + totZ l ≤ 1048576 → sumT (lensZ l) s = .ok (s + totZ l)
  | [], s, _, _ => by simp [lensZ, sumT, totZ]
  | a :: l, s, h0, h => by
    rw [totZ] at h
    have ih := sumT_lens l (s + (a.size : Int)) (by omega) (by omega)
    show sumT ((a.size : Int) :: lensZ l) s = _
    rw [sumT, if_pos (by omega), if_pos (by omega), ih, totZ]
    congr 1
    omega
theorem cutT_back : ∀ (l : List ByteArray) (tl : List Int), cutT (lensZ l) (flatZ l ++ tl) = (l, tl)
  | [], tl => rfl
  | a :: l, tl => by
    have ih := cutT_back l tl
    have hz : ((a.size : Int)).toNat = (bytesOf a).length := by rw [bytesOf_length]; rfl
    show cutT ((a.size : Int) :: lensZ l) (flatZ (a :: l) ++ tl) = _
    have he : flatZ (a :: l) ++ tl = bytesOf a ++ (flatZ l ++ tl) := by unfold flatZ; rw [List.flatMap_cons, List.append_assoc]
    rw [cutT, he, hz, List.take_left, List.drop_left, ih, str_bytes]
theorem numsT_back {L : List Int} (hx : ∀ x ∈ L, D13.inI x) (hl : L.length ≤ 65536) (tl : List Int) : numsT (L.length : Int) (D13.listB L ++ tl) = .ok (L, tl) := by
  unfold numsT
  rw [D13.begin_back hx hl tl]
  simp
theorem textsT_back {l : List ByteArray} (h : longZ l = false) (tl : List Int) : textsT (l.length : Int) ((lengthsZ l).1 ++ tl) = .ok (l, tl) := by
  obtain ⟨ht, hl⟩ := longZ_no h
  have hi := lensZ_inI (l := l) (by omega)
  have hn := numsT_back hi (by rw [lensZ_length]; exact hl) (flatZ l ++ tl)
  rw [lensZ_length] at hn
  unfold textsT
  rw [lengthsZ_fine h, List.append_assoc, hn]
  simp only []
  rw [sumT_lens l 0 (by omega) (by omega)]
  simp only []
  rw [if_pos (by rw [List.length_append, flatZ_length]; omega), cutT_back]
end Go.Proofs.Ytcdephhplmcmjaa.X
end

section
namespace Go.Proofs.Ytcdephhplmcmjaa.X
open Go.RowKit Go.Proofs.YtcdephhplmcmjaaW.PrintWords Go.Proofs.YtcdephhplmcmjaaW.PrintLast Go.Proofs.YtcdephhplmcmjaaW.PrintMore
set_option linter.unusedVariables false
set_option linter.unusedSimpArgs false
theorem ex_front (s : ByteArray) (n : Nat) : (s.extract 0 n).data.toList = s.data.toList.take n := by
  rw [ByteArray.data_extract]; simp
theorem ex_back (s : ByteArray) (n : Nat) : (s.extract n s.size).data.toList = s.data.toList.drop n := by
  rw [ByteArray.data_extract]
  simp
  rw [List.take_of_length_le (by rw [List.length_drop, data_length]; omega)]
theorem comL_take : ∀ (a b : List UInt8), a.take (comL a b) = b.take (comL a b)
  | [], b => by simp [comL]
  | a :: as_, [] => by simp [comL]
  | a :: as_, b :: bs => by
    rw [comL]
    split
    · rename_i h
      rw [List.take_succ_cons, List.take_succ_cons, comL_take as_ bs, h]
    · simp
theorem com_join (a b : ByteArray) : a.extract 0 (comZ a b) ++ b.extract (comZ a b) b.size = b := by
  apply ba_eq
  rw [ByteArray.data_append, Array.toList_append, ex_front, ex_back]
  unfold comZ
  rw [comL_take, List.take_append_drop]
theorem comL_symm : ∀ (a b : List UInt8), comL a b = comL b a
  | [], [] => rfl
  | [], b :: bs => by simp [comL]
  | a :: as_, [] => by simp [comL]
  | a :: as_, b :: bs => by
    rw [comL, comL, comL_symm as_ bs]
    by_cases h : a = b
    · rw [if_pos h, if_pos h.symm]
    · rw [if_neg h, if_neg (fun e => h e.symm)]
theorem preT_back : ∀ (l : List ByteArray) (last : ByteArray) (sum : Int), 0 ≤ sum → sum + (totZ l : Int) ≤ 1048576 → preT (firstsZ (pairsF last l)) (restsZ (pairsF last l)) last sum = .ok l
  | [], last, sum, _, _ => rfl
  | s :: l, last, sum, h0, h => by
    rw [totZ] at h
    have hc := comZ_le last s
    have hz : (s.extract (comZ last s) s.size).size = s.size - comZ last s := by rw [ByteArray.size_extract]; omega
    have ih := preT_back l s (sum + (s.size : Int)) (by omega) (by omega)
    show preT (((comZ last s : Nat) : Int) :: firstsZ (pairsF s l)) (s.extract (comZ last s) s.size :: restsZ (pairsF s l)) last sum = _
    rw [preT, if_pos ⟨by omega, by omega⟩, if_pos (by rw [hz]; omega), hz, show ((comZ last s : Nat) : Int).toNat = comZ last s from rfl, com_join, show sum + (((comZ last s : Nat) : Int) + ((s.size - comZ last s : Nat) : Int)) = sum + (s.size : Int) by omega, ih]
theorem firsts_in {l : List ByteArray} (h : longZ l = false) : ∀ x ∈ firstsZ (pairsZ l), D13.inI x := fun x hx => by
  obtain ⟨p, hp, rfl⟩ := List.mem_map.1 hx
  obtain ⟨h1, h2, h3⟩ := pairsF_rests l ⟨#[]⟩ p hp
  have := size_le_tot l _ h3
  have := (longZ_no h).1
  unfold D13.inI
  omega
theorem firsts_len (l : List ByteArray) : (firstsZ (pairsZ l)).length = l.length := by rw [firstsZ_length, pairsZ, pairsF_length]
theorem rests_len (l : List ByteArray) : (restsZ (pairsZ l)).length = l.length := by rw [restsZ, List.length_map, pairsZ, pairsF_length]
theorem prefT_back {l : List ByteArray} (h : longZ l = false) (tl : List Int) : prefT (l.length : Int) ((prefixesZ l).1 ++ tl) ((prefixesZ l).1 ++ tl) = .ok (l, tl) := by
  obtain ⟨ht, hl⟩ := longZ_no h
  have hn := numsT_back (firsts_in h) (by rw [firsts_len]; exact hl) ((lengthsZ (restsZ (pairsZ l))).1 ++ tl)
  have hx := textsT_back (rests_short h) tl
  have hp := preT_back l ⟨#[]⟩ 0 (by omega) (by omega)
  rw [firsts_len] at hn
  rw [rests_len] at hx
  obtain ⟨wh, hwh⟩ : ∃ wh, wh = (prefixesZ l).1 ++ tl := ⟨_, rfl⟩
  have he : wh = D13.listB (firstsZ (pairsZ l)) ++ ((lengthsZ (restsZ (pairsZ l))).1 ++ tl) := by rw [hwh, prefixesZ_fine h, List.append_assoc]
  have ht2 : wh.take (wh.length - tl.length) = (prefixesZ l).1 := by
    rw [hwh, List.length_append, Nat.add_sub_cancel, List.take_left]
  rw [← hwh]
  unfold prefT
  rw [show numsT (l.length : Int) wh = .ok (firstsZ (pairsZ l), (lengthsZ (restsZ (pairsZ l))).1 ++ tl) by rw [he]; exact hn]
  simp only []
  rw [hx]
  simp only []
  rw [show preT (firstsZ (pairsZ l)) (restsZ (pairsZ l)) ⟨#[]⟩ 0 = .ok l from hp]
  simp only []
  rw [ht2, if_pos rfl]
theorem lengthsZ_u8 (l : List ByteArray) : ∀ x ∈ (lengthsZ l).1, 0 ≤ x ∧ x ≤ 255 := by
  unfold lengthsZ
  split
  · intro x hx; cases hx
  · intro x hx
    rcases List.mem_append.1 hx with hx | hx
    · exact D13.listB_range _ x hx
    · exact flatZ_range _ x hx
theorem prefixesZ_u8 (l : List ByteArray) : ∀ x ∈ (prefixesZ l).1, 0 ≤ x ∧ x ≤ 255 := by
  unfold prefixesZ
  split
  · intro x hx; cases hx
  · intro x hx
    rcases List.mem_append.1 hx with hx | hx
    · exact D13.listB_range _ x hx
    · exact lengthsZ_u8 _ x hx
theorem lengthsZ_len {l : List ByteArray} (h : longZ l = false) : (lengthsZ l).1.length ≤ 2000000 := by
  obtain ⟨ht, hl⟩ := longZ_no h
  rw [lengthsZ_fine h, List.length_append, flatZ_length]
  have := D13.listB_short (lensZ_inI (l := l) (by omega)) (by rw [lensZ_length]; exact hl)
  omega
theorem prefixesZ_len {l : List ByteArray} (h : longZ l = false) : (prefixesZ l).1.length ≤ 3000000 := by
  obtain ⟨ht, hl⟩ := longZ_no h
  rw [prefixesZ_fine h, List.length_append]
  have := D13.listB_short (firsts_in h) (by rw [firsts_len]; exact hl)
  have := lengthsZ_len (rests_short h)
  omega
theorem same_s (l : List ByteArray) (hl : l.length ≤ 1000000000) : ∀ (d k i : Nat), i + d = l.length → d < k → marquetrylaw14_same.l0 k l l (i : Int) = some true
  | 0, k, i, h, hk => by
    obtain ⟨k, rfl⟩ : ∃ j, k = j + 1 := ⟨k - 1, by omega⟩
    rw [marquetrylaw14_same.l0, if_neg (by omega)]
  | d + 1, k, i, h, hk => by
    obtain ⟨k, rfl⟩ : ∃ j, k = j + 1 := ⟨k - 1, by omega⟩
    rw [marquetrylaw14_same.l0, if_pos (by omega), if_pos (by omega), if_pos (by omega), if_pos rfl, show wrap64 ((i : Int) + 1) = ((i + 1 : Nat) : Int) by rw [Bx.w64 (by omega) (by omega)]; omega]
    exact same_s l hl d k (i + 1) (by omega) (by omega)
theorem sameS {k : Nat} {l : List ByteArray} (hl : l.length ≤ 1000000000) (hk : l.length < k) : marquetrylaw14_same.f k l l = some true := by
  unfold marquetrylaw14_same.f
  rw [if_pos rfl]
  exact same_s l hl l.length k 0 (by omega) hk
theorem fLengths {l : List ByteArray} (h : longZ l = false) : strings_Lengths.f l = some (lengthsZ l) := by
  unfold strings_Lengths.f
  rw [if_pos (by have := (longZ_no h).2; omega)]
theorem fPrefixes {l : List ByteArray} (h : longZ l = false) : strings_Prefixes.f l = some (prefixesZ l) := by
  unfold strings_Prefixes.f
  rw [if_pos (by have := (longZ_no h).2; omega)]
theorem fReadLengths {b : List Int} (hu : ∀ x ∈ b, 0 ≤ x ∧ x ≤ 255) (hl : b.length ≤ 100000000) (count : Int) : strings_ReadLengths.f b count = some (readT count (textsT count b)) := by
  unfold strings_ReadLengths.f
  rw [if_pos ⟨u8All_iff.2 hu, by omega⟩]
theorem fReadPrefixes {b : List Int} (hu : ∀ x ∈ b, 0 ≤ x ∧ x ≤ 255) (hl : b.length ≤ 100000000) (count : Int) : strings_ReadPrefixes.f b count = some (readT count (prefT count b b)) := by
  unfold strings_ReadPrefixes.f
  rw [if_pos ⟨u8All_iff.2 hu, by omega⟩]
theorem readT_ok {count : Int} (h0 : 0 ≤ count) (h1 : count ≤ 65536) {l : List ByteArray} : readT count (.ok (l, [])) = (l, 0) := by
  unfold readT
  rw [if_neg (by omega)]
  rfl
def S1 : List ByteArray := [⟨#[97, 98]⟩, ⟨#[99]⟩]
def S2 : List ByteArray := [⟨#[97, 98]⟩, ⟨#[97, 98, 99]⟩]
theorem S1_long : longZ S1 = false := by decide
theorem S2_long : longZ S2 = false := by decide
theorem list_21 : D13.listB [2, 1] = [128, 1, 4, 2, 4, 1, 0, 0, 0, 0] := by
  have e1 : allD [2, 1] = [[-1]] := by kernel_rfl
  have e2 : D13.blkB [-1] = D13.vb 1 ++ [0, 0, 0, 0] := by kernel_rfl
  unfold D13.listB
  rw [e1, List.flatMap_cons, e2, show D13.vb [(2 : Int), 1].length = [2] from D13.vb_small (by decide), show D13.vb (D13.zz (rd [2, 1] 0)).toNat = [4] from D13.vb_small (by decide), show D13.vb 1 = [1] from D13.vb_small (by decide)]
  rfl
theorem list_02 : (D13.listB [0, 2]).length = 10 := by
  have e1 : allD [0, 2] = [[2]] := by kernel_rfl
  have e2 : D13.blkB [2] = D13.vb 4 ++ [0, 0, 0, 0] := by kernel_rfl
  unfold D13.listB
  rw [e1, List.flatMap_cons, e2, show D13.vb [(0 : Int), 2].length = [2] from D13.vb_small (by decide), show D13.vb (D13.zz (rd [0, 2] 0)).toNat = [0] from D13.vb_small (by decide), show D13.vb 4 = [4] from D13.vb_small (by decide)]
  rfl
theorem S1_bytes : lengthsZ S1 = ([128, 1, 4, 2, 4, 1, 0, 0, 0, 0, 97, 98, 99], 0) := by
  rw [lengthsZ_fine S1_long, show lensZ S1 = [2, 1] from rfl, show flatZ S1 = [97, 98, 99] from rfl, list_21]
  rfl
theorem S2_rests : restsZ (pairsZ S2) = S1 := by
  show [(⟨#[97, 98]⟩ : ByteArray).extract 0 2, (⟨#[97, 98, 99]⟩ : ByteArray).extract 2 3] = S1
  rw [show (⟨#[97, 98]⟩ : ByteArray).extract 0 2 = ⟨#[97, 98]⟩ from ba_eq (by rw [ex_front]; rfl), show (⟨#[97, 98, 99]⟩ : ByteArray).extract 2 3 = ⟨#[99]⟩ from ba_eq ((ex_back ⟨#[97, 98, 99]⟩ 2).trans rfl)]
  rfl
theorem S2_bytes : (prefixesZ S2).1.length = 23 ∧ (prefixesZ S2).2 = 0 := by
  rw [prefixesZ_fine S2_long, S2_rests, show firstsZ (pairsZ S2) = [0, 2] from rfl, S1_bytes, List.length_append, list_02]
  exact ⟨rfl, rfl⟩
theorem works14 {k : Nat} (hk : 4 ≤ k) : marquetrylaw14_works.f k = some true := by
  have h1 := fLengths S1_long
  have h2 := fPrefixes S2_long
  have h3 := fReadLengths (lengthsZ_u8 S1) (by have := lengthsZ_len S1_long; omega) 2
  have h4 := fReadPrefixes (prefixesZ_u8 S2) (by have := prefixesZ_len S2_long; omega) 2
  have t1 := textsT_back S1_long []
  have t2 := prefT_back S2_long []
  rw [List.append_nil] at t1 t2
  rw [show ((S1.length : Nat) : Int) = 2 from rfl] at t1
  rw [show ((S2.length : Nat) : Int) = 2 from rfl] at t2
  rw [t1, readT_ok (by omega) (by omega)] at h3
  rw [t2, readT_ok (by omega) (by omega)] at h4
  have s1 := sameS (k := k) (l := S1) (by decide) (by show 2 < k; omega)
  have s2 := sameS (k := k) (l := S2) (by decide) (by show 2 < k; omega)
  have h5 := S2_bytes
  unfold marquetrylaw14_works.f marquetrylaw14_num.f
  change ((strings_Lengths.f S1).bind fun bt129 => _) = _
  rw [h1, Option.bind_some]
  change ((strings_Prefixes.f S2).bind fun bt136 => _) = _
  rw [h2, Option.bind_some, h3, Option.bind_some, h4, Option.bind_some]
  simp only []
  rw [S1_bytes, h5.2, h5.1]
  rw [if_pos (by rw [ByteArray.toList_eq]; rfl)]
  simp only [Option.bind_some]
  rw [if_pos (by kernel_rfl)]
  change ((marquetrylaw14_same.f k S1 S1).bind fun t155 => _) = _
  rw [s1, Option.bind_some, if_pos rfl]
  change ((marquetrylaw14_same.f k S2 S2).bind fun t159 => _) = _
  rw [s2, Option.bind_some, if_pos rfl]
  rfl
theorem refCommon (a b : ByteArray) (ha : a.size ≤ 1000000) (hb : b.size ≤ 1000000) : ∀ (d k i : Nat), a.size = i + d → d < k → comZ a b = i + comL (a.data.toList.drop i) (b.data.toList.drop i) → marquetryref14_Common.l0 k a b (i : Int) = some ((comZ a b : Nat) : Int)
  | 0, k, i, h, hk, he => by
    obtain ⟨k, rfl⟩ : ∃ j, k = j + 1 := ⟨k - 1, by omega⟩
    rw [comL_end _ _ i (by rw [data_length, data_length]; omega)] at he
    rw [marquetryref14_Common.l0, if_neg (by omega), he]
    rfl
  | d + 1, k, i, h, hk, he => by
    obtain ⟨k, rfl⟩ : ∃ j, k = j + 1 := ⟨k - 1, by omega⟩
    rw [marquetryref14_Common.l0, if_pos (by omega)]
    by_cases hi : i < b.size
    · have l1 : i < a.data.toList.length := by rw [data_length]; omega
      have l2 : i < b.data.toList.length := by rw [data_length]; omega
      rw [if_pos (by omega), if_pos (by omega)]
      rw [comL_step _ _ i l1 l2] at he
      by_cases hc : bt a (i : Int) = bt b (i : Int)
      · rw [if_pos ((bt_eq a b i l1 l2).1 hc)] at he
        rw [if_pos hc, show wrap64 ((i : Int) + 1) = ((i + 1 : Nat) : Int) by rw [Bx.w64 (by omega) (by omega)]; omega]
        exact refCommon a b ha hb d k (i + 1) (by omega) (by omega) (by omega)
      · rw [if_neg (fun e => hc ((bt_eq a b i l1 l2).2 e))] at he
        rw [if_neg hc, he]
        rfl
    · rw [comL_end _ _ i (by rw [data_length, data_length]; omega)] at he
      rw [if_neg (by omega), he]
      rfl
end Go.Proofs.Ytcdephhplmcmjaa.X
end

section
namespace Go.Proofs.Ytcdephhplmcmjaa.Rd
open Go.ChangeShapes Go.WideShapes Go.Deep Go.RowKit Go.Joins Go.Proofs.YtcdephhplmcmjaaW.PrintWords
structure Opens (P : Program) (t : TypeId) {α : Type} (d : Kd α) (Wf : α → Prop) : Prop where
  opens : ∀ {H : Type} {enc : TypeId × Value → H} {w : World} {base : Nat} {spare : Nat → Bool} {held : Bool} {n : Nat} {cs : List Value} {y : DataW H × List MemPlace},
    DataW.trod enc P w base spare held n t cs = some y → (∀ m ∈ y.1.weights P t, m ≤ reachBytes) → ∃ x, d.K w x cs ∧ Wf x
theorem one_of {P : Program} {fs : Array Field} (hone : oneCellFields P fs = true) {j : Nat} {f : Field} (h : fs.toList[j]? = some f) : f.offset = j ∧ P.cellsOf f.type = 1 := hone_of hone j f (by simpa using h)
end Go.Proofs.Ytcdephhplmcmjaa.Rd
end
