/- DeltaReads: texts of this seat in one (wip/merge.py): Gy, X35, X38, Gk, Gx, X39, Rd. -/
import Derived.Test.YtbncfhmfohpfbaaGDeltaReads3
import Derived.Test.YtbncfhmfohpfbaaGDeltaReads4
import Derived.Test.YtbncfhmfohpfbaaGDeltaReads0
import Derived.Test.YtbncfhmfohpfbaaGDeltaReads2
import Derived.Deep.Slices
import Derived.Lib.SmallJoins
import Derived.SizedLaws
section
namespace Go.Proofs.Ytbncfhmfohpfbaa.X
open Go.RowKit Go.Proofs.YtbncfhmfohpfbaaW.PrintWords Go.Proofs.YtbncfhmfohpfbaaW.PrintLast Go.Proofs.YtbncfhmfohpfbaaW.PrintMore Go.Proofs.Ytbncfhmfohpfbaa.D13
set_option linter.unusedVariables false
set_option linter.unusedSimpArgs false
def RbO (W : World) (a : List Int × Int × Int) (e : Ending) (W' : World) : Prop :=
  ∃ v, e = .returned (.tuple #[v, .int .i64 a.2.1, .int .i64 a.2.2]) ∧ W'.ownsRow W.heap.size 2 1 v a.1.length (nums .i64 a.1) ∧ Below W.heap.size W W'
theorem rf_new (W : World) (A0 : Option Addr) (c0 : Nat) (B : List Int) (hC : Kd.C (Kd.int .u8) W A0 B.length B) : RfI W W.heap.size B (.ok B) (W.alloc (.cells #[.slice A0 B.length c0, .int .i64 0, .int .i64 0] 76)) :=
  ⟨0, 0, IsS76.new W W A0 c0 B 0 0 (Below.refl _ _) hC, ⟨rfl, by omega, by omega, rfl⟩, below_alloc (Below.refl _ _) _⟩
theorem rfI_below {w0 A : World} {g : Nat} {B : List Int} {st : Except Int (List Int)} (h : RfI w0 g B st A) : Below w0.heap.size w0 A := by
  obtain ⟨_, _, _, _, h⟩ := h
  exact h
theorem rfI_grown {w0 A A' : World} {g : Nat} {B : List Int} {st : Except Int (List Int)} {row : Option Nat} (h : RfI w0 g B st A) (hg : A.grownBy A' row) (hne : some g ≠ row) (hb : Below w0.heap.size w0 A') : RfI w0 g B st A' := by
  obtain ⟨a, w, h1, h2, _⟩ := h
  exact ⟨a, w, h1.grown hg hne, h2, hb⟩
theorem rfI_keep {w0 A A' : World} {g : Nat} {B : List Int} {st : Except Int (List Int)} (h : RfI w0 g B st A) (hb : Below A.heap.size A A') : RfI w0 g B st A' := by
  obtain ⟨a, w, h1, h2, h3⟩ := h
  exact ⟨a, w, h1.below hb, h2, h3.trans (hb.mono h3.size)⟩
theorem own_old {W : World} {base gx n : Nat} {e : TypeId} {v : Value} {xs : List Value} (h : W.ownsRow base e 1 v n xs) (hg : W.heap.size ≤ gx) : v.ownBlock ≠ some gx := by
  obtain ⟨_, ⟨rfl, _⟩ | ⟨b, cap, cur, rfl, hb, hc, _⟩⟩ := h
  · simp [Value.ownBlock]
  · have := blk_lt hc
    simp only [Value.ownBlock, ne_eq, Option.some.injEq]
    omega
theorem begin_ok {B l : List Int} {res : Except Int (List Int × List Int)} {a : Nat} (h : res = listS B) (hr : res = .ok (l, B.drop a)) (ha : a ≤ B.length) : beginR B = if (strOfNums (listB l)).toList = (strOfNums (B.take a)).toList then (l, (a : Int), 0) else ([], 0, 8) := by
  unfold beginR
  rw [← h, hr]
  simp only [List.length_drop]
  rw [show B.length - (B.length - a) = a by omega]
theorem below_cell {n : Nat} {w w' : World} {p : Addr} {v : Value} (h : Below n w w') (hp : w.cell? p = some v) (hn : p.block < n) : w'.cell? p = some v := (World.cell?_of_block (h.block _ hn)).trans hp
theorem begin_err {B : List Int} {res : Except Int (List Int × List Int)} {x : Int} (h : res = listS B) (hx : res = .error x) : beginR B = ([], 0, x) := by
  unfold beginR
  rw [← h, hx]
theorem rb_err {W W' : World} {B : List Int} {res : Except Int (List Int × List Int)} {x : Int} (h : res = listS B) (hx : res = .error x) (hB : Below W.heap.size W W') : RbO W (beginR B) (.returned (.tuple #[.slice none 0 0, .int .i64 0, .int .i64 x])) W' := by
  rw [begin_err h hx]
  exact ⟨_, rfl, World.ownsRow_nil _ _ _ _, hB⟩
structure RjI (W : World) (g gx gw bk cl : Nat) (B xs ws l : List Int) (st : Except Int (List Int)) (w : World) : Prop where
  ho : w.ownsRow W.heap.size 2 1 (.slice (some ⟨bk, 0, none⟩) l.length cl) l.length (nums .i64 l)
  hx : w.heap[gx]? = some (.cells (xs.map (Value.int .i64)).toArray 2 (0, 0))
  ha : w.heap[gw]? = some (.cells (ws.map (Value.int .i64)).toArray 80 (0, 0))
  hi : RfI W g B st w
section
variable {W w : World} {g gx gw bk cl : Nat} {B xs ws l : List Int} {st : Except Int (List Int)}
theorem RjI.drawn0 {w' : World} (h : RjI W g gx gw bk cl B xs ws l st w) (hq : Drawn0 w w') : RjI W g gx gw bk cl B xs ws l st w' := by
  obtain ⟨n, rfl⟩ := hq
  exact ⟨pw_own_drewN h.ho n, h.hx, h.ha, rfI_keep h.hi (pw_below_drewN (Below.refl _ _) n)⟩
theorem RjI.draw (h : RjI W g gx gw bk cl B xs ws l st w) : RjI W g gx gw bk cl B xs ws l st w.drew := ⟨h.ho.drew, h.hx, h.ha, rfI_keep h.hi (below_drew1 (Below.refl _ _))⟩
theorem RjI.last (h : RjI W g gx gw bk cl B xs ws l st w) (hl : 1 ≤ l.length) : w.cell? ⟨bk, l.length - 1, none⟩ = some (.int .i64 (rd l ((l.length : Int) - 1))) := by
  have := (own_at h.ho ((l.length : Int) - 1) (by omega) (by omega)).1
  rwa [show ((l.length : Int) - 1).toNat = l.length - 1 by omega] at this
theorem RjI.one {j : Nat} {x : Int} (h : RjI W g gx gw bk cl B xs ws l st w) (hj : xs[j]? = some x) : w.cell? ⟨gx, j, none⟩ = some (.int .i64 x) := by
  rw [blk_cell h.hx j]
  simp [hj]
theorem RjI.base (h : RjI W g gx gw bk cl B xs ws l st w) : W.heap.size ≤ w.heap.size := (rfI_below h.hi).size
theorem RjI.after {w2 : World} (h : RjI W g gx gw bk cl B xs ws l st w) (hg : w.grownBy w2 (some bk)) (hb : Below W.heap.size w w2) (hne : bk ≠ gx) :
    w2.heap[gx]? = some (.cells (xs.map (Value.int .i64)).toArray 2 (0, 0)) ∧ w2.heap[gw]? = some (.cells (ws.map (Value.int .i64)).toArray 80 (0, 0)) ∧ RfI W g B st w2 :=
  ⟨(hg.block gx (blk_lt h.hx) (by simpa using Ne.symm hne)).trans h.hx, (hg.block gw (blk_lt h.ha) (own_ne h.ho h.ha (by decide))).trans h.ha, rfI_grown h.hi hg (rf_ne h.hi h.ho) ((rfI_below h.hi).trans hb)⟩
end
theorem wp_shutQ {P : Program} {Q : Exit → Act → World → Prop} {c : Code} {a : Act} {w : World} (h : c.wp P (Exit.then (fun a w => Q .normal a w) (fun _ _ _ => False)) a w) : c.wp P Q a w :=
  Code.wp_mono (fun e a w hq => by cases e <;> first | exact hq | exact hq.elim) h
theorem own_still {w : World} {bk gx n cl : Nat} {cs : Array Value} {t : TypeId} {v2 : Value} (hx : w.heap[gx]? = some (.cells cs t (0, 0))) (h : v2.ownBlock = (Value.slice (some ⟨bk, 0, none⟩) n cl).ownBlock ∨ ∃ b, v2.ownBlock = some b ∧ w.heap.size ≤ b) (hne : bk ≠ gx) : v2.ownBlock ≠ some gx := by
  rcases h with h | ⟨b, h, hb⟩
  · rw [h]; simpa [Value.ownBlock] using hne
  · rw [h]
    have := blk_lt hx
    simp only [ne_eq, Option.some.injEq]
    omega
theorem rd_of_all {l : List Int} {p : Int → Prop} (h : ∀ x ∈ l, p x) (i : Int) (h0 : 0 ≤ i) (h1 : i < l.length) : p (rd l i) := by
  rw [show i = ((i.toNat : Nat) : Int) by omega, rd_lt l i.toNat (by omega)]
  exact h _ (List.getElem_mem _)
set_option maxRecDepth 100000 in
set_option maxHeartbeats 16000000 in
theorem rb_main (A0 : Option Addr) (c0 : Nat) (B : List Int) (W : World) (hC : Kd.C (Kd.int .u8) W A0 B.length B) (hc : B.length ≤ c0) (hl : B.length ≤ 6000) (hu : ∀ x ∈ B, 0 ≤ x ∧ x ≤ 255) :
    Calls Try.prog 19 #[.slice A0 B.length c0] W (RbO W (beginR B)) := by
  obtain ⟨g, hg⟩ : ∃ g, g = W.heap.size := ⟨_, rfl⟩
  have HNUM := Aside0.mk (fun st Wz (h : RfI W g B st Wz) => rx_number W g B st Wz (by omega) hu h)
  have HSGN := Aside0.mk (fun st Wz (h : RfI W g B st Wz) => rx_signed W g B st Wz (by omega) hu h)
  have HNXT := Aside0.mk (fun st Wz (h : RfI W g B st Wz) => rx_next W g B st Wz (by omega) hu h)
  have HMUST := Aside0.mk (fun st b Wz (h : RfI W g B st Wz) => rf_must W g B st b Wz h)
  have HPACK := Aside0.mk (fun st w Wz (hw : (∃ r, st = .ok r) → 0 ≤ w ∧ w ≤ 64) (h : RfI W g B st Wz) => rx_packed W g B st w Wz (by omega) hu hw h)
  have HADD := Aside0.mk (fun a b Wz (ha : D13.inI a) (hb : D13.inI b) => marquetryref13_Add.calls a b _ Wz (D13.ref_add ha hb))
  have HNEW := Aside0.mk (rf_new W A0 c0 B hC)
  rw [← hg] at HNEW
  obtain ⟨res, hres⟩ : ∃ res, res = listS B := ⟨_, rfl⟩
  have R0 := Aside0.mk (show Rs res (fun r => res = wantS 128 r fun b => wantS 4 b tailS) (.ok B) from hres)
  have HRES := Aside0.mk hres
  have HL := Aside0.mk hl
  have HU := Aside0.mk hu
  have HC := Aside0.mk hC
  have HG := Aside0.mk hg
  clear hC hl hu hres
  go_enter Try.func19, Try.ntmps19
  go_upto_region 9 with fail
  rw [← hg]
  clear hg
  refine (HNUM.out _ _ HNEW.out).mono ?_
  rintro e W1 ⟨v1, st1, rfl, hn1, _, hI1, _⟩
  have R1 := Aside0.mk (Rs.next R0.out hn1)
  have HI1 := Aside0.mk hI1
  clear hn1 hI1 R0 HNEW
  go_upto_region 9 with fail
  refine (HMUST.out _ _ _ HI1.out).mono ?_
  rintro e W2 ⟨rfl, _, hI2⟩
  have R2 := Aside0.mk (rs_after (A := Int) (Rs.must R1.out (byte_eq v1 128)))
  have HI2 := Aside0.mk hI2
  clear hI2 R1 HI1
  go_upto_region 9 with fail
  refine (HNUM.out _ _ HI2.out).mono ?_
  rintro e W3 ⟨v3, st3, rfl, hn3, _, hI3, _⟩
  have R3 := Aside0.mk (Rs.next R2.out hn3)
  have HI3 := Aside0.mk hI3
  clear hn3 hI3 R2 HI2
  go_upto_region 9 with fail
  refine (HMUST.out _ _ _ HI3.out).mono ?_
  rintro e W4 ⟨rfl, _, hI4⟩
  have R4 := Aside0.mk (rs_after (A := Int) (Rs.must R3.out (byte_eq v3 4)))
  have HI4 := Aside0.mk hI4
  clear hI4 R3 HI3
  go_upto_region 9 with fail
  refine (HNUM.out _ _ HI4.out).mono ?_
  rintro e W5 ⟨many, st5, rfl, hn5, _, hI5, _⟩
  have R5 := Aside0.mk (Rs.step (G := fun v r => 0 ≤ v ∧ res = if v ≤ 65536 then andS (mapS sgnV (numS 0 0 r)) fun first b => if v > 0 ∨ first = 0 then (if v = 0 then .ok ([], b) else loopS v 513 1 [first] b) else .error 8 else .error 8) R4.out hn5 (fun r r1 h hp => ⟨(numS_range _ _ _ _ _ hp).1, by rw [h, tailS, hp]; rfl⟩) (fun r x h hp => by rw [h, tailS, hp]; rfl))
  have HI5 := Aside0.mk hI5
  clear hn5 hI5 R4 HI4
  go_upto_region 9 with fail
  refine (HMUST.out _ _ _ HI5.out).mono ?_
  rintro e W6 ⟨rfl, _, hI6⟩
  have R6 := Aside0.mk (show Rs res (fun r => (0 ≤ many ∧ many ≤ 65536) ∧ res = andS (mapS sgnV (numS 0 0 r)) fun first b => if many > 0 ∨ first = 0 then (if many = 0 then .ok ([], b) else loopS many 513 1 [first] b) else .error 8) (mustR (decide (many ≤ 65536)) st5) from by
    cases st5 with
    | error x => exact R5.out
    | ok r =>
      obtain ⟨h1, h2⟩ : 0 ≤ many ∧ res = _ := R5.out
      by_cases c : many ≤ 65536
      · rw [if_pos c] at h2; rw [decide_eq_true c]; exact ⟨⟨h1, c⟩, h2⟩
      · rw [if_neg c] at h2; rw [decide_eq_false c]; exact ⟨h2, by decide⟩)
  have HI6 := Aside0.mk hI6
  clear hI6 R5 HI5
  go_upto_region 9 with fail
  refine (HSGN.out _ _ HI6.out).mono ?_
  rintro e W7 ⟨first, st7, rfl, hn7, hfi, hI7, _⟩
  have R7 := Aside0.mk (Rs.step (G := fun first r => (0 ≤ many ∧ many ≤ 65536) ∧ res = if many > 0 ∨ first = 0 then (if many = 0 then .ok ([], r) else loopS many 513 1 [first] r) else .error 8) R6.out hn7 (fun r r1 h hp => ⟨h.1, by rw [h.2, hp]; rfl⟩) (fun r x h hp => by rw [h.2, hp]; rfl))
  have HI7 := Aside0.mk hI7
  have HFI := Aside0.mk hfi
  clear hn7 hI7 hfi R6 HI6
  go_upto_region 9 with fail
  go_cut [5, 8, 9] from 21 (fun v5 v8 v9 wx => v5 = .pointer (some ⟨g, 0, none⟩) ∧ v8 = .int .u64 many ∧ v9 = .int .i64 first ∧ ∃ st8, Aside0 (RfI W g B st8 wx) ∧ Aside0 (Rs res (fun r => (0 ≤ many ∧ many ≤ 65536) ∧ res = if many = 0 then .ok ([], r) else loopS many 513 1 [first] r) st8))
  case first =>
    by_cases hm : many > 0
    · have d1 : decide (many > 0) = true := decide_eq_true hm
      have R8 := Aside0.mk (show Rs res (fun r => (0 ≤ many ∧ many ≤ 65536) ∧ res = if many = 0 then .ok ([], r) else loopS many 513 1 [first] r) (mustR true st7) from by
        cases st7 with
        | error x => exact R7.out
        | ok r =>
          obtain ⟨h1, h2⟩ : _ ∧ res = _ := R7.out
          rw [if_pos (.inl hm)] at h2
          exact ⟨h1, h2⟩)
      clear hm R7
      go_wp2_with fail
      refine (HMUST.out _ _ _ HI7.out).mono ?_
      rintro e W8 ⟨rfl, _, hI8⟩
      have HI8 := Aside0.mk hI8
      clear hI8 HI7
      go_wp2
      go_meet
      case rel => exact ⟨rfl, rfl, rfl, _, HI8, R8⟩
    · have d1 : decide (many > 0) = false := decide_eq_false hm
      have R8 := Aside0.mk (show Rs res (fun r => (0 ≤ many ∧ many ≤ 65536) ∧ res = if many = 0 then .ok ([], r) else loopS many 513 1 [first] r) (mustR (first == 0) st7) from by
        cases st7 with
        | error x => exact R7.out
        | ok r =>
          obtain ⟨h1, h2⟩ : _ ∧ res = _ := R7.out
          rw [byte_eq]
          by_cases c : first = 0
          · rw [if_pos (.inr c)] at h2; rw [decide_eq_true c]; exact ⟨h1, h2⟩
          · rw [if_neg (fun h => h.elim hm c)] at h2; rw [decide_eq_false c]; exact ⟨h2, by decide⟩)
      clear hm R7
      go_wp2_with fail
      refine (HMUST.out _ _ _ HI7.out).mono ?_
      rintro e W8 ⟨rfl, _, hI8⟩
      have HI8 := Aside0.mk hI8
      clear hI8 HI7
      go_wp2
      go_meet
      case rel => exact ⟨rfl, rfl, rfl, _, HI8, R8⟩
  case rest =>
    obtain ⟨rfl, rfl, rfl, st8, HI8, R8⟩ := hcut
    clear R7 HI7
    cases st8 with
    | error x =>
      obtain ⟨at_, wrong, ⟨A1, c1, hb, hg, hC⟩, ⟨rfl, hx⟩, hB⟩ := HI8.out
      have k2 := (blk_cell hb 2).trans (show _ = some (.int .i64 wrong) from rfl)
      have q0 : (wrong != 0) = true := by simpa using hx
      have HBf := Aside0.mk hB
      clear hb hg hC hx hB HI8
      go_wp2
      go_quiet (fail)
      go_wp2
      go_ret3
      exact rb_err HRES.out R8.out.1 (pw_below_drewN HBf.out _)
    | ok r =>
      have hcv : wrap64 many = many := Bx.w64 (by have := R8.out.1; omega) (by have := R8.out.1; omega)
      have HM := Aside0.mk R8.out.1
      have HR9 := Aside0.mk R8.out.2
      obtain ⟨at_, wrong, ⟨A1, c1, hb, hg, hC⟩, ⟨rfl, hx⟩, hB⟩ := id HI8.out
      have k2 := (blk_cell hb 2).trans (show _ = some (.int .i64 0) from rfl)
      have HBf := Aside0.mk hB
      clear hb hg hC hx hB R8
      go_upto_if 64 with fail
      go_cut [10, 11] from 61 (fun v10 v11 wx => v10 = .int .i64 many ∧ ∃ l, Aside0 (RfI W g B (.ok r) wx) ∧ Aside0 (res = loopS many 513 1 l r) ∧ Aside0 (wx.ownsRow W.heap.size 2 1 v11 l.length (nums .i64 l)) ∧ Aside0 ((l.length : Int) ≤ many ∧ (1 < many → 1 ≤ l.length)) ∧ Aside0 (∀ x ∈ l, D13.inI x))
      case first =>
        by_cases hm : many > 0
        · have d1 : decide (many > 0) = true := decide_eq_true hm
          have HR10 := Aside0.mk (show res = loopS many 513 1 [first] r from by have := HR9.out; rwa [if_neg (by omega)] at this)
          have HM1 := Aside0.mk hm
          have hm2 : 0 < many := hm
          clear hm d1
          go_wp2_with (first
            | ((with_reducible refine gate_builtin (b := .append) (xs := #[.tmp 65, .tmp 67]) rfl ?_); at_builtin; refine print_append_num (w0 := W) W.heap.size rfl (.tmp 65) (.tmp 67) 22 2 .i64 8 rfl Try.underlying22 dl_info (by decide) (.slice none 0 0) [] first rfl rfl (World.ownsRow_nil _ _ _ _) HBf.out HBf.out.size (by decide) ?_; intro v2 w2 ho2 hb2 hg2 hat2; have HO2 := Aside0.mk ho2; have HB2 := Aside0.mk hb2; have HI2 := Aside0.mk (rfI_grown HI8.out hg2 (by simp [Value.ownBlock]) hb2); clear ho2 hb2 hg2 hat2))
          go_meet
          case rel => exact ⟨rfl, [first], HI2, HR10, HO2, ⟨by have := HM1.out; simp; omega, fun _ => by simp⟩, ⟨fun x hx => by rw [List.mem_singleton.1 hx]; exact HFI.out⟩⟩
        · have d1 : decide (many > 0) = false := decide_eq_false hm
          have HR10 := Aside0.mk (show res = loopS many 513 1 [] r from by have := HR9.out; rw [if_pos (by have := HM.out; omega)] at this; rw [this, show (513 : Nat) = 512 + 1 from rfl, loopS, if_neg (by omega)])
          have HM1 := Aside0.mk (show ¬ 1 < many by omega)
          have hm2 : ¬ 0 < many := hm
          clear hm d1
          go_wp2
          go_meet
          case rel => exact ⟨rfl, [], HI8, HR10, ⟨World.ownsRow_nil _ _ _ _⟩, ⟨by simpa using HM.out.1, fun h => absurd h (by have := HM1.out; omega)⟩, ⟨fun x hx => by cases hx⟩⟩
      case rest =>
        obtain ⟨rfl, l, HI, HR, HO, HLL, HLI⟩ := hcut
        have HR0 := Aside0.mk (show Rs res (fun lb => res = loopS many 513 1 l lb) (.ok r) from HR.out)
        clear HI8 HR9 k2 HBf HR hcv
        go_upto_block 0 with fail
        go_cut [11] from 69 (fun v11 wx => ∃ l st, Aside0 (RfI W g B st wx) ∧ Aside0 (Rs res (fun lb => res = .ok (l, lb)) st) ∧ Aside0 (wx.ownsRow W.heap.size 2 1 v11 l.length (nums .i64 l)) ∧ Aside0 (∀ x ∈ l, D13.inI x) ∧ Aside0 (l.length ≤ 65536))
        case first =>
          go_wp2
          go_loopw [11, 12] (fun v11 v12 wr => ∃ (k : Nat) (fr : Int) (l : List Int) (st : Except Int (List Int)), v12 = .int .i64 fr ∧ 1 ≤ fr ∧ fr ≤ 65664 ∧ Aside0 (many - fr < 128 * k) ∧ Aside0 (Rs res (fun lb => res = loopS many k fr l lb) st) ∧ Aside0 (RfI W g B st wr) ∧ Aside0 (wr.ownsRow W.heap.size 2 1 v11 l.length (nums .i64 l)) ∧ Aside0 ((l.length : Int) ≤ many ∧ (1 < many → 1 ≤ l.length)) ∧ Aside0 (∀ x ∈ l, D13.inI x)) (fun _ v12 _ => (70000 - intOf v12).toNat)
          case atStart => exact ⟨513, 1, l, .ok r, rfl, by omega, by omega, ⟨by have := HM.out; omega⟩, HR0, HI, HO, HLL, HLI⟩
          case round =>
            clear HR0 HI HO HLL HLI
            obtain ⟨k, fr, l, st, rfl, hf1, hf2, HK, HR, HI, HO, HLL, HLI⟩ := hrel
            obtain ⟨Al, cl, rfl⟩ := own_formD HO.out
            by_cases hc : fr < many
            · have qc : decide (fr < many) = true := decide_eq_true hc
              cases st with
              | error x =>
                obtain ⟨at_, wrong, ⟨A1, c1, hb, hg, hC⟩, ⟨rfl, hx⟩, hB⟩ := id HI.out
                have k2 := (blk_cell hb 2).trans (show _ = some (.int .i64 wrong) from rfl)
                have q0 : (wrong == 0) = false := beq_eq_false_iff_ne.2 hx
                clear hb hg hC hx hB
                go_wp2
                go_meet
                case rel => exact ⟨l, .error wrong, HI, ⟨HR.out⟩, HO, HLI, ⟨by have := HLL.out; have := HM.out; omega⟩⟩
              | ok lb =>
                obtain ⟨at_, wrong, ⟨A1, c1, hb, hg, hC⟩, ⟨rfl, hx⟩, hB⟩ := id HI.out
                have k2 := (blk_cell hb 2).trans (show _ = some (.int .i64 0) from rfl)
                obtain ⟨k, rfl⟩ : ∃ j, k = j + 1 := ⟨k - 1, by have := HK.out; omega⟩
                have R1 := Aside0.mk (show Rs res (fun r => res = andS (mapS sgnV (numS 0 0 r)) fun least b => andS (widS many fr 4 0 b) fun ws b => andS (partsS many fr least ws 0 l b) fun l b => loopS many k (fr + 128) l b) (.ok lb) from by
                  have h : res = loopS many (k + 1) fr l lb := HR.out
                  rw [loopS, if_pos hc] at h
                  exact h)
                have HF := Aside0.mk (show 1 ≤ fr ∧ fr ≤ 65664 ∧ fr < many from ⟨hf1, hf2, hc⟩)
                clear hb hg hC hx hB HR hf1 hf2 hc
                go_wp2_with fail
                refine (HSGN.out _ _ HI.out).mono ?_
                rintro e W2 ⟨least, st2, rfl, hn2, hle, hI2, hK2⟩
                have R2 := Aside0.mk (Rs.next R1.out hn2)
                have HI2 := Aside0.mk hI2
                have HLE := Aside0.mk hle
                have HO2 := Aside0.mk (rf_own hK2 HI.out HO.out)
                clear hn2 hI2 hK2 hle R1 HI HO k2 qc
                go_wp2
                refine wp_named fun W3 hW3 => ?_
                obtain ⟨gw, hgw⟩ : ∃ gw, gw = W2.heap.size := ⟨_, rfl⟩
                rw [← hgw]
                have HI3 := Aside0.mk (show RfI W g B st2 W3 from (by rw [hW3]; exact rfI_keep HI2.out (below_alloc (Below.refl _ _) _)))
                have HO3 := Aside0.mk (show W3.ownsRow W.heap.size 2 1 (.slice Al l.length cl) l.length (nums .i64 l) from (by rw [hW3]; exact HO2.out.alloc _))
                have HA3 := Aside0.mk (show W3.heap[gw]? = some (.cells (([0, 0, 0, 0] : List Int).map (Value.int .i64)).toArray 80 (0, 0)) from (by rw [hW3, hgw]; exact blk_new _ _))
                have HGW := Aside0.mk (show W.heap.size ≤ gw from (by rw [hgw]; exact (rfI_below HI2.out).size))
                have R3 := Aside0.mk (show Rs res (fun r => (∀ x ∈ ([0, 0, 0, 0] : List Int).take 0, 0 ≤ x ∧ x ≤ 64) ∧ res = andS (widS many fr (4 - 0) 0 r) fun ws' b => andS (partsS many fr least (([0, 0, 0, 0] : List Int).take 0 ++ ws') 0 l b) fun l b => loopS many k (fr + 128) l b) st2 from R2.out.imp fun r h => ⟨fun x hx => (by cases hx), h⟩)
                clear hW3 hgw HI2 HO2 R2
                have hu80 := Try.underlying80
                go_loopw [15] (fun v15 wr => ∃ (i : Nat) (ws : List Int) (st : Except Int (List Int)), v15 = .int .i64 i ∧ i ≤ 4 ∧ Aside0 (ws.length = 4) ∧ Aside0 (Rs res (fun r => (∀ x ∈ ws.take i, 0 ≤ x ∧ x ≤ 64) ∧ res = andS (widS many fr (4 - i) i r) fun ws' b => andS (partsS many fr least (ws.take i ++ ws') 0 l b) fun l b => loopS many k (fr + 128) l b) st) ∧ Aside0 (wr.heap[gw]? = some (.cells (ws.map (Value.int .i64)).toArray 80 (0, 0))) ∧ Aside0 (RfI W g B st wr) ∧ Aside0 (wr.ownsRow W.heap.size 2 1 (.slice Al l.length cl) l.length (nums .i64 l))) (fun v15 _ => 4 - (intOf v15).toNat)
                case atStart => exact ⟨0, [0, 0, 0, 0], st2, rfl, by omega, ⟨rfl⟩, R3, HA3, HI3, HO3⟩
                case round =>
                  clear R3 HA3 HI3 HO3
                  obtain ⟨i, ws, st, rfl, hi, HWL, HR, HA, HI, HO⟩ := hrel
                  by_cases hi4 : i < 4
                  · have qi : decide ((i : Int) < 4) = true := decide_eq_true (by omega)
                    have Hi4 := Aside0.mk hi4
                    have HN := Aside0.mk (HNXT.out st wr HI.out)
                    clear hi
                    go_wp2_with fail
                    refine HN.out.mono ?_
                    rintro e W4 ⟨v, st4, rfl, hn4, hvr, hI4, hK4⟩
                    have hcv : wrap64 v = v := Bx.w64 (by omega) (by omega)
                    have R4 := Aside0.mk (Rs.step (G := fun v r1 => (∀ x ∈ ws.take i, 0 ≤ x ∧ x ≤ 64) ∧ res = if v ≤ 64 ∧ (v = 0 ∨ fr + 32 * (i : Int) < many) then andS (widS many fr (3 - i) (i + 1) r1) (fun ws' b => andS (partsS many fr least (ws.take i ++ v :: ws') 0 l b) fun l b => loopS many k (fr + 128) l b) else .error 8) HR.out hn4 (fun r r1 h hp => ⟨h.1, by
                        have h := h.2
                        rw [show 4 - i = (3 - i) + 1 by have := Hi4.out; omega, widS, hp, andS_ok] at h
                        by_cases cc : v ≤ 64 ∧ (v = 0 ∨ fr + 32 * (i : Int) < many)
                        · rw [if_pos cc] at h ⊢
                          rw [assocS h]
                          rfl
                        · rw [if_neg cc] at h ⊢
                          exact h⟩) (fun r x h hp => by
                        have h := h.2
                        rw [show 4 - i = (3 - i) + 1 by have := Hi4.out; omega, widS, hp, andS_err, andS_err] at h
                        exact h))
                    have HI4 := Aside0.mk hI4
                    have HO4 := Aside0.mk (rf_own hK4 HI.out HO.out)
                    have HA4 := Aside0.mk (rf_blk hK4 HI.out HA.out (by decide))
                    have HVR := Aside0.mk hvr
                    have hw1 : IntKind.i64.wrap (32 * (i : Int)) = 32 * (i : Int) := IntWalk.i64_in _ (by have := Hi4.out; omega)
                    have hw2 : IntKind.i64.wrap (fr + 32 * (i : Int)) = fr + 32 * (i : Int) := IntWalk.i64_in _ (by have := Hi4.out; have := HF.out; have := HM.out; omega)
                    have cA : W4.cell? ⟨gw, i, none⟩ = some (.int .i64 (rd ws (i : Int))) := by
                      rw [blk_cell HA4.out i]
                      have := HWL.out
                      simp only [List.getElem?_toArray, List.getElem?_map]
                      rw [List.getElem?_eq_getElem (by omega), rd_lt ws i (by omega)]
                      rfl
                    have fA : W4.frozen? ⟨gw, i, none⟩ = false := blk_frozen HA4.out i
                    have f11 : (0 : Int) ≤ (i : Int) := by omega
                    have f12 : (i : Int) < 4 := by have := Hi4.out; omega
                    have f13 : ((i : Int)).toNat = i := rfl
                    have hgne : g ≠ gw := by
                      obtain ⟨_, _, hs, _⟩ := HI4.out
                      exact hs.ne_blk HA4.out (by decide)
                    have HGNE := Aside0.mk hgne
                    have HI5 := Aside0.mk (show RfI W g B st4 (W4.setCell ⟨gw, i, none⟩ (.int .i64 v)) from by
                      obtain ⟨a1, a2, hs, h2, h3⟩ := HI4.out
                      exact ⟨a1, a2, hs.far (by simpa using HGNE.out) _, h2, Below.setCell h3 (by simpa using HGW.out) _⟩)
                    have HEND := Aside0.mk (fun (b : Bool) (hb : b = decide (v ≤ 64 ∧ (v = 0 ∨ fr + 32 * (i : Int) < many))) (W6 : World) (h6 : KeepBut (W4.setCell ⟨gw, i, none⟩ (.int .i64 v)) W6 g none) (hI6 : RfI W g B (mustR b st4) W6) => show ∃ (i' : Nat) (ws : List Int) (st : Except Int (List Int)), ((i : Int) + 1) = (i' : Int) ∧ i' ≤ 4 ∧ Aside0 (ws.length = 4) ∧ Aside0 (Rs res (fun r => (∀ x ∈ ws.take i', 0 ≤ x ∧ x ≤ 64) ∧ res = andS (widS many fr (4 - i') i' r) fun ws' b => andS (partsS many fr least (ws.take i' ++ ws') 0 l b) fun l b => loopS many k (fr + 128) l b) st) ∧ Aside0 (W6.heap[gw]? = some (.cells (ws.map (Value.int .i64)).toArray 80 (0, 0))) ∧ Aside0 (RfI W g B st W6) ∧ Aside0 (W6.ownsRow W.heap.size 2 1 (.slice Al l.length cl) l.length (nums .i64 l)) from by
                      have hA5 := blk_set HA4.out i (.int .i64 v)
                      rw [List.setIfInBounds_toArray, ← List.map_set] at hA5
                      refine ⟨i + 1, ws.set i v, mustR b st4, by omega, by have := Hi4.out; omega, ⟨by rw [List.length_set]; exact HWL.out⟩, ⟨?_⟩, ⟨rf_blk h6 HI5.out hA5 (by decide)⟩, ⟨hI6⟩, ⟨rf_own h6 HI5.out (own_setCell HO4.out (own_ne HO4.out HA4.out (by decide)) _)⟩⟩
                      rw [take_set (by rw [HWL.out]; exact Hi4.out), show 4 - (i + 1) = 3 - i by omega]
                      simp only [List.append_assoc, List.singleton_append]
                      have R4 := R4.out
                      subst hb
                      cases st4 with
                      | error x => exact R4
                      | ok r =>
                        obtain ⟨h1, h2⟩ : (∀ x ∈ ws.take i, 0 ≤ x ∧ x ≤ 64) ∧ res = _ := R4
                        by_cases c : v ≤ 64 ∧ (v = 0 ∨ fr + 32 * (i : Int) < many)
                        · rw [if_pos c] at h2
                          rw [decide_eq_true c]
                          refine ⟨fun x hx => ?_, h2⟩
                          rcases List.mem_append.1 hx with hx | hx
                          · exact h1 x hx
                          · rw [List.mem_singleton.1 hx]; exact ⟨HVR.out.1, c.1⟩
                        · rw [if_neg c] at h2
                          rw [decide_eq_false c]
                          exact ⟨h2, by decide⟩)
                    clear hn4 hvr hI4 hK4 HR HI HO HA hi4 HN hgne R4 HO4 HI4
                    by_cases c64 : v ≤ 64
                    · have q1 : decide (v ≤ 64) = true := decide_eq_true c64
                      by_cases cz : v = 0
                      · have q2 : (v == 0) = true := beq_iff_eq.2 cz
                        have HBV := Aside0.mk (show true = decide (v ≤ 64 ∧ (v = 0 ∨ fr + 32 * (i : Int) < many)) from (decide_eq_true ⟨c64, .inl cz⟩).symm)
                        clear c64 cz
                        go_wp2_with fail
                        refine (HMUST.out _ _ _ HI5.out).mono ?_
                        rintro e W6 ⟨rfl, hK6, hI6⟩
                        have HE := Aside0.mk (HEND.out _ (HBV.out) _ hK6 hI6)
                        clear hK6 hI6 HEND HI5 cA fA hcv
                        go_wp2
                        go_roundw
                        case rel =>
                          obtain ⟨i', ws', st', e1, h⟩ := HE.out
                          exact ⟨i', ws', st', by rw [← e1], h⟩
                        case measure => exact meas_up Hi4.out
                      · have q2 : (v == 0) = false := beq_eq_false_iff_ne.2 cz
                        have HBV := Aside0.mk (show decide (fr + 32 * (i : Int) < many) = decide (v ≤ 64 ∧ (v = 0 ∨ fr + 32 * (i : Int) < many)) from decide_eq_decide.2 ⟨fun h => ⟨c64, .inr h⟩, fun h => h.2.resolve_left cz⟩)
                        clear c64 cz
                        go_wp2_with fail
                        refine (HMUST.out _ _ _ HI5.out).mono ?_
                        rintro e W6 ⟨rfl, hK6, hI6⟩
                        have HE := Aside0.mk (HEND.out _ (HBV.out) _ hK6 hI6)
                        clear hK6 hI6 HEND HI5 cA fA hcv
                        go_wp2
                        go_roundw
                        case rel =>
                          obtain ⟨i', ws', st', e1, h⟩ := HE.out
                          exact ⟨i', ws', st', by rw [← e1], h⟩
                        case measure => exact meas_up Hi4.out
                    · have q1 : decide (v ≤ 64) = false := decide_eq_false c64
                      have HBV := Aside0.mk (show false = decide (v ≤ 64 ∧ (v = 0 ∨ fr + 32 * (i : Int) < many)) from (decide_eq_false (fun h => c64 h.1)).symm)
                      clear c64
                      go_wp2_with fail
                      refine (HMUST.out _ _ _ HI5.out).mono ?_
                      rintro e W6 ⟨rfl, hK6, hI6⟩
                      have HE := Aside0.mk (HEND.out _ (HBV.out) _ hK6 hI6)
                      clear hK6 hI6 HEND HI5 cA fA hcv
                      go_wp2
                      go_roundw
                      case rel =>
                        obtain ⟨i', ws', st', e1, h⟩ := HE.out
                        exact ⟨i', ws', st', by rw [← e1], h⟩
                      case measure => exact meas_up Hi4.out
                  · have hie : i = 4 := by omega
                    have qi : decide ((i : Int) < 4) = false := decide_eq_false (by omega)
                    have R5 := Aside0.mk (show Rs res (fun r => (∀ x ∈ ws, 0 ≤ x ∧ x ≤ 64) ∧ res = andS (partsS many fr least (ws.drop 0) 0 l r) fun l b => loopS many k (fr + 128) l b) st from HR.out.imp fun r h => by
                      rw [List.take_of_length_le (by have := HWL.out; omega), show 4 - i = 0 by omega, widS, andS_ok, List.append_nil] at h
                      exact h)
                    clear HR hi hi4 hie
                    go_wp2
                    go_loopw [11, 16] (fun v11 v16 wr => ∃ (p : Nat) (l : List Int) (st : Except Int (List Int)), v16 = .int .i64 p ∧ p ≤ 4 ∧ Aside0 (Rs res (fun r => (∀ x ∈ ws, 0 ≤ x ∧ x ≤ 64) ∧ res = andS (partsS many fr least (ws.drop p) p l r) fun l b => loopS many k (fr + 128) l b) st) ∧ Aside0 (wr.heap[gw]? = some (.cells (ws.map (Value.int .i64)).toArray 80 (0, 0))) ∧ Aside0 (RfI W g B st wr) ∧ Aside0 (wr.ownsRow W.heap.size 2 1 v11 l.length (nums .i64 l)) ∧ Aside0 ((l.length : Int) ≤ many ∧ (1 < many → 1 ≤ l.length)) ∧ Aside0 (∀ x ∈ l, D13.inI x)) (fun _ v16 _ => 4 - (intOf v16).toNat)
                    case atStart => exact ⟨0, l, st, rfl, by omega, R5, HA, HI, HO, HLL, HLI⟩
                    case round =>
                      clear R5 HA HI HO HLL HLI
                      obtain ⟨p, l, st, rfl, hp, HR, HA, HI, HO, HLL, HLI⟩ := hrel
                      obtain ⟨Al, cl, rfl⟩ := own_formD HO.out
                      have hw3 : IntKind.i64.wrap (fr + 128) = fr + 128 := IntWalk.i64_in _ (by have := HF.out; omega)
                      have HOUT := Aside0.mk (fun (hx : p = 4 ∨ fr + 32 * (p : Int) ≥ many) => show ∃ (k : Nat) (fr' : Int) (l' : List Int) (st : Except Int (List Int)), fr + 128 = fr' ∧ 1 ≤ fr' ∧ fr' ≤ 65664 ∧ Aside0 (many - fr' < 128 * k) ∧ Aside0 (Rs res (fun lb => res = loopS many k fr' l' lb) st) ∧ Aside0 (RfI W g B st wr) ∧ Aside0 (wr.ownsRow W.heap.size 2 1 (.slice Al l.length cl) l'.length (nums .i64 l')) ∧ Aside0 ((l'.length : Int) ≤ many ∧ (1 < many → 1 ≤ l'.length)) ∧ Aside0 (∀ x ∈ l', D13.inI x) from by
                        refine ⟨k, fr + 128, l, st, rfl, by have := HF.out; omega, by have := HF.out; have := HM.out; omega, ⟨by have := HK.out; omega⟩, ⟨HR.out.imp fun r h => ?_⟩, HI, HO, HLL, HLI⟩
                        have h := h.2
                        cases hd : ws.drop p with
                        | nil => rw [hd, partsS] at h; exact h
                        | cons a t =>
                          rw [hd, partsS] at h
                          rcases hx with hx | hx
                          · have hz : ws.drop p = [] := List.drop_of_length_le (by have := HWL.out; omega)
                            rw [hz] at hd; cases hd
                          · rw [if_pos hx] at h; exact h)
                      have HMEAS := Aside0.mk (show (70000 - intOf (.int .i64 (fr + 128))).toNat < (70000 - intOf (.int .i64 fr)).toNat from by have := HF.out; have := HM.out; simp [intOf]; omega)
                      by_cases hp4 : p < 4
                      · have qp : decide ((p : Int) < 4) = true := decide_eq_true (by omega)
                        have hw1 : IntKind.i64.wrap (32 * (p : Int)) = 32 * (p : Int) := IntWalk.i64_in _ (by omega)
                        have hw2 : IntKind.i64.wrap (fr + 32 * (p : Int)) = fr + 32 * (p : Int) := IntWalk.i64_in _ (by have := HF.out; have := HM.out; omega)
                        have Hp4 := Aside0.mk hp4
                        by_cases hpm : fr + 32 * (p : Int) < many
                        · have q2 : decide (fr + 32 * (p : Int) < many) = true := decide_eq_true hpm
                          have HPM := Aside0.mk hpm
                          clear hp HOUT HMEAS hw3
                          obtain ⟨x, hx⟩ : ∃ x, ws[p]? = some x := ⟨_, List.getElem?_eq_getElem (by rw [HWL.out]; exact hp4)⟩
                          have hdr : ws.drop p = x :: ws.drop (p + 1) := by
                            obtain ⟨hlt, hge⟩ := List.getElem?_eq_some_iff.1 hx
                            rw [List.drop_eq_getElem_cons hlt, hge]
                          have cW : wr.cell? ⟨gw, p, none⟩ = some (.int .i64 x) := by
                            rw [blk_cell HA.out p]
                            simp [hx]
                          have f11 : (0 : Int) ≤ (p : Int) := by omega
                          have f12 : (p : Int) < 4 := by omega
                          have f13 : ((p : Int)).toNat = p := rfl
                          have HP := Aside0.mk (HPACK.out st x wr (fun ⟨r, hr⟩ => by
                            have h := HR.out
                            rw [hr] at h
                            exact h.1 x (List.mem_of_getElem? hx)) HI.out)
                          have RP := Aside0.mk (show Rs res (fun r => (∀ x ∈ ws, 0 ≤ x ∧ x ≤ 64) ∧ res = andS (packedS x.toNat r) fun xs b => andS (partsS many fr least (ws.drop (p + 1)) (p + 1) (addS many least xs l) b) fun l b => loopS many k (fr + 128) l b) st from HR.out.imp fun r h => ⟨h.1, by
                            have h := h.2
                            rw [hdr, partsS, if_neg (by omega)] at h
                            exact assocS h⟩)
                          clear hx hdr HR hp4 hpm
                          go_wp2_with fail
                          refine HP.out.mono ?_
                          rintro e W6 ⟨gx, xs, st6, rfl, hK6, hgx, hxl, hxi, hbx, hn6, hI6⟩
                          have R6 := Aside0.mk (Rs.step (G := fun xs r => (∀ x ∈ ws, 0 ≤ x ∧ x ≤ 64) ∧ res = andS (partsS many fr least (ws.drop (p + 1)) (p + 1) (addS many least xs l) r) fun l b => loopS many k (fr + 128) l b) RP.out hn6 (fun r r1 h hp => ⟨h.1, by rw [h.2, hp]; rfl⟩) (fun r x h hp => by rw [h.2, hp]; rfl))
                          have HI6 := Aside0.mk hI6
                          have HA6 := Aside0.mk (rf_blk hK6 HI.out HA.out (by decide))
                          have HO6 := Aside0.mk (rf_own hK6 HI.out HO.out)
                          have HX6 := Aside0.mk hbx
                          have HXL := Aside0.mk hxl
                          have HXI := Aside0.mk hxi
                          have HXN := Aside0.mk (show (Value.slice Al l.length cl).ownBlock ≠ some gx from own_old HO.out hgx)
                          obtain ⟨lf, hlf⟩ : ∃ lf, lf = addS many least xs l := ⟨_, rfl⟩
                          rw [← hlf] at R6
                          have HLF := Aside0.mk (show addS many least (xs.drop 0) l = lf from by rw [List.drop_zero]; exact hlf.symm)
                          have H1M := Aside0.mk (show 1 < many from by have := HF.out; omega)
                          clear hK6 hgx hxl hxi hbx hn6 hI6 hlf RP HP HI HA HO cW f11 f12 f13 qp hw1 hw2
                          go_wp2
                          go_loopw [11, 18] (fun v11 v18 wr => ∃ (j : Nat) (l : List Int), v18 = .int .i64 j ∧ j ≤ 32 ∧ Aside0 (addS many least (xs.drop j) l = lf) ∧ Aside0 (wr.heap[gx]? = some (.cells (xs.map (Value.int .i64)).toArray 2 (0, 0))) ∧ Aside0 (wr.heap[gw]? = some (.cells (ws.map (Value.int .i64)).toArray 80 (0, 0))) ∧ Aside0 (RfI W g B st6 wr) ∧ Aside0 (wr.ownsRow W.heap.size 2 1 v11 l.length (nums .i64 l)) ∧ Aside0 (v11.ownBlock ≠ some gx) ∧ Aside0 ((l.length : Int) ≤ many ∧ (1 < many → 1 ≤ l.length)) ∧ Aside0 (∀ x ∈ l, D13.inI x)) (fun _ v18 _ => 32 - (intOf v18).toNat)
                          case atStart => exact ⟨0, l, rfl, by omega, HLF, HX6, HA6, HI6, HO6, HXN, HLL, HLI⟩
                          case round =>
                            clear HLF HX6 HA6 HI6 HO6 HXN HLL HLI
                            obtain ⟨j, l, rfl, hj, HLF, HX, HA, HI, HO, HXN, HLL, HLI⟩ := hrel
                            obtain ⟨Al, cl, rfl⟩ := own_formD HO.out
                            have hw4 : IntKind.i64.wrap ((p : Int) + 1) = (p : Int) + 1 := IntWalk.i64_in _ (by have := Hp4.out; omega)
                            have HOUT := Aside0.mk (fun (hx : l = lf) => show ∃ (p' : Nat) (l' : List Int) (st : Except Int (List Int)), ((p : Int) + 1) = (p' : Int) ∧ p' ≤ 4 ∧ Aside0 (Rs res (fun r => (∀ x ∈ ws, 0 ≤ x ∧ x ≤ 64) ∧ res = andS (partsS many fr least (ws.drop p') p' l' r) fun l b => loopS many k (fr + 128) l b) st) ∧ Aside0 (wr.heap[gw]? = some (.cells (ws.map (Value.int .i64)).toArray 80 (0, 0))) ∧ Aside0 (RfI W g B st wr) ∧ Aside0 (wr.ownsRow W.heap.size 2 1 (.slice Al l.length cl) l'.length (nums .i64 l')) ∧ Aside0 ((l'.length : Int) ≤ many ∧ (1 < many → 1 ≤ l'.length)) ∧ Aside0 (∀ x ∈ l', D13.inI x) from
                              ⟨p + 1, l, st6, by omega, Hp4.out, ⟨by rw [hx]; exact R6.out⟩, HA, HI, HO, HLL, HLI⟩)
                            by_cases hj32 : j < 32
                            · have q5 : decide ((j : Int) < 32) = true := decide_eq_true (by omega)
                              by_cases hlm : (l.length : Int) < many
                              · have q6 : decide ((l.length : Int) < many) = true := decide_eq_true hlm
                                have HLM := Aside0.mk hlm
                                have Hj := Aside0.mk hj32
                                obtain ⟨bk, cap, hbq, hbk, _⟩ := HO.out.form (by have := HLL.out.2 H1M.out; omega)
                                obtain ⟨rfl, rfl⟩ : Al = some ⟨bk, 0, none⟩ ∧ cl = cap := by simpa using hbq
                                obtain ⟨x, hx⟩ : ∃ x, xs[j]? = some x := ⟨_, List.getElem?_eq_getElem (by rw [HXL.out]; exact hj32)⟩
                                have hdr : xs.drop j = x :: xs.drop (j + 1) := by
                                  obtain ⟨hlt, hge⟩ := List.getElem?_eq_some_iff.1 hx
                                  rw [List.drop_eq_getElem_cons hlt, hge]
                                have HJ := Aside0.mk (show RjI W g gx gw bk cl B xs ws l st6 wr from ⟨HO.out, HX.out, HA.out, HI.out⟩)
                                have HNE := Aside0.mk (show bk ≠ gx from fun h => HXN.out (by rw [h]; rfl))
                                obtain ⟨y, hy⟩ : ∃ y, y = rd l ((l.length : Int) - 1) := ⟨_, rfl⟩
                                have HY := Aside0.mk hy
                                have HYI := Aside0.mk (show D13.inI y from by rw [hy]; exact rd_of_all HLI.out _ (by have := HLL.out.2 H1M.out; omega) (by omega))
                                have HXI2 := Aside0.mk (show D13.inI x from HXI.out x (List.mem_of_getElem? hx))
                                have HL1 := Aside0.mk (show 1 ≤ l.length from HLL.out.2 H1M.out)
                                have HXX := Aside0.mk hx
                                have HLF2 := Aside0.mk (show addS many least (xs.drop (j + 1)) (l ++ [wrap64 (y + wrap64 (least + x))]) = lf from by
                                  have h := HLF.out
                                  rw [hdr, addS, if_neg (by omega)] at h
                                  rw [hy]
                                  exact h)
                                have e1 : IntKind.i64.wrap ((l.length : Int) - 1) = (l.length : Int) - 1 := IntWalk.i64_in _ (by have := HLL.out; have := HM.out; omega)
                                have e2 : 0 ≤ (l.length : Int) - 1 := by have := HL1.out; omega
                                have e3 : ((l.length : Int) - 1).toNat = l.length - 1 := by have := HL1.out; omega
                                have e5 : 1 ≤ (l.length : Int) := by have := HL1.out; omega
                                have e4 : (l.length : Int) - 1 < l.length := by omega
                                have e6 : (0 : Int) ≤ (j : Int) := by omega
                                have e7 : (j : Int) < 32 := by omega
                                have e8 : ((j : Int)).toNat = j := rfl
                                have hw4 : IntKind.i64.wrap ((j : Int) + 1) = (j : Int) + 1 := IntWalk.i64_in _ (by omega)
                                clear hj32 hlm hj HOUT hbq hbk hy hx hdr HO HX HA HI HXN HLF
                                go_wp2
                                refine wp_shutQ ?_
                                refine wp_region_any (by kernel_rfl) ?_
                                refine any_named fun w3 hw3 => ?_
                                replace HJ := Aside0.mk (show RjI W g gx gw bk cl B xs ws l st6 w3 from (by rw [hw3]; exact HJ.out.draw))
                                clear hw3
                                refine wpAny_take (i := 0) (oi := { dst := some 139, op := Op.move (Operand.tmp 11), type := 22, pos := "ref.go:263", after := #[], guard := none }) (v := .slice (some ⟨bk, 0, none⟩) l.length cl) rfl (by kernel_rfl) (by kernel_rfl) (by kernel_rfl) (fun _ _ _ h => h) (Or.inl ⟨by rfl, ?_⟩) ?_
                                · (intro w; go_simp)
                                try simp only [Act.put, List.setIfInBounds_toArray, List.set_cons_zero, List.set_cons_succ]
                                refine wpAny_take (i := 1) (oi := { dst := some 140, op := Op.move (Operand.tmp 11), type := 22, pos := "ref.go:263", after := #[], guard := none }) (v := .slice (some ⟨bk, 0, none⟩) l.length cl) rfl (by kernel_rfl) (by kernel_rfl) (by kernel_rfl) (fun _ _ _ h => h) (Or.inl ⟨by rfl, ?_⟩) ?_
                                · (intro w; go_simp)
                                try simp only [Act.put, List.setIfInBounds_toArray, List.set_cons_zero, List.set_cons_succ]
                                refine wpAny_take (i := 2) (oi := { dst := some 141, op := Op.move (Operand.tmp 11), type := 22, pos := "ref.go:263", after := #[], guard := none }) (v := .slice (some ⟨bk, 0, none⟩) l.length cl) rfl (by kernel_rfl) (by kernel_rfl) (by kernel_rfl) (fun _ _ _ h => h) (Or.inl ⟨by rfl, ?_⟩) ?_
                                · (intro w; go_simp)
                                try simp only [Act.put, List.setIfInBounds_toArray, List.set_cons_zero, List.set_cons_succ]
                                refine wpAny_take (i := 3) (oi := { dst := some 142, op := Op.call { callee := Callee.builtin Builtin.len, args := #[Operand.tmp 141], argTypes := #[22] }, type := 3, pos := "ref.go:263", after := #[{ on := 2, ground := Ground.data }], guard := none }) (v := .int .i64 l.length) rfl (by kernel_rfl) (by kernel_rfl) (by kernel_rfl) (fun _ _ _ h => h) (Or.inl ⟨by rfl, ?_⟩) ?_
                                · (intro w; go_simp)
                                try simp only [Act.put, List.setIfInBounds_toArray, List.set_cons_zero, List.set_cons_succ]
                                refine wpAny_take (i := 4) (oi := { dst := some 143, op := Op.binOp BinOp.sub 3 (Operand.tmp 142) (Operand.const (Value.int IntKind.i64 1)) 3, type := 3, pos := "ref.go:263", after := #[{ on := 3, ground := Ground.data }], guard := none }) (v := .int .i64 ((l.length : Int) - 1)) rfl (by kernel_rfl) (by kernel_rfl) (by kernel_rfl) (fun _ _ _ h => h) (Or.inl ⟨by rfl, ?_⟩) ?_
                                · (intro w; go_simp)
                                try simp only [Act.put, List.setIfInBounds_toArray, List.set_cons_zero, List.set_cons_succ]
                                refine wpAny_take (i := 5) (oi := { dst := some 144, op := Op.indexAddr 22 (Operand.tmp 140) (Operand.tmp 143), type := 0, pos := "ref.go:263", after := #[{ on := 1, ground := Ground.data }, { on := 4, ground := Ground.data }], guard := none }) (v := .pointer (some ⟨bk, l.length - 1, none⟩)) rfl (by kernel_rfl) (by kernel_rfl) (by kernel_rfl) (fun _ _ _ h => h) (Or.inl ⟨by rfl, ?_⟩) ?_
                                · (intro w; go_simp)
                                try simp only [Act.put, List.setIfInBounds_toArray, List.set_cons_zero, List.set_cons_succ]
                                refine wpAny_take (i := 7) (oi := { dst := some 146, op := Op.move (Operand.tmp 13), type := 2, pos := "ref.go:263", after := #[], guard := none }) (v := .int .i64 least) rfl (by kernel_rfl) (by kernel_rfl) (by kernel_rfl) (fun _ _ _ h => h) (Or.inl ⟨by rfl, ?_⟩) ?_
                                · (intro w; go_simp)
                                try simp only [Act.put, List.setIfInBounds_toArray, List.set_cons_zero, List.set_cons_succ]
                                refine wpAny_take (i := 8) (oi := { dst := some 147, op := Op.move (Operand.tmp 17), type := 22, pos := "ref.go:263", after := #[], guard := none }) (v := .slice (some ⟨gx, 0, none⟩) 32 32) rfl (by kernel_rfl) (by kernel_rfl) (by kernel_rfl) (fun _ _ _ h => h) (Or.inl ⟨by rfl, ?_⟩) ?_
                                · (intro w; go_simp)
                                try simp only [Act.put, List.setIfInBounds_toArray, List.set_cons_zero, List.set_cons_succ]
                                refine wpAny_take (i := 9) (oi := { dst := some 148, op := Op.move (Operand.tmp 18), type := 3, pos := "ref.go:263", after := #[], guard := none }) (v := .int .i64 j) rfl (by kernel_rfl) (by kernel_rfl) (by kernel_rfl) (fun _ _ _ h => h) (Or.inl ⟨by rfl, ?_⟩) ?_
                                · (intro w; go_simp)
                                try simp only [Act.put, List.setIfInBounds_toArray, List.set_cons_zero, List.set_cons_succ]
                                refine wpAny_take (i := 10) (oi := { dst := some 149, op := Op.indexAddr 22 (Operand.tmp 147) (Operand.tmp 148), type := 0, pos := "ref.go:263", after := #[{ on := 8, ground := Ground.data }, { on := 9, ground := Ground.data }], guard := none }) (v := .pointer (some ⟨gx, j, none⟩)) rfl (by kernel_rfl) (by kernel_rfl) (by kernel_rfl) (fun _ _ _ h => h) (Or.inl ⟨by rfl, ?_⟩) ?_
                                · (intro w; go_simp)
                                try simp only [Act.put, List.setIfInBounds_toArray, List.set_cons_zero, List.set_cons_succ]
                                refine wpAny_ready (rs := [6, 11]) (by kernel_rfl) (by simp) ?_
                                refine AllReady.cons (o := { dst := some 145, op := Op.load 2 (Operand.tmp 144), type := 2, pos := "ref.go:263", after := #[{ on := 5, ground := Ground.data }], guard := none }) rfl (fun K hK => ?_) ?_
                                · have c1 : w3.cell? ⟨bk, l.length - 1, none⟩ = some (.int .i64 y) := (HJ.out.last HL1.out).trans (by rw [HY.out])
                                  go_simp
                                  clear c1
                                  refine hK _ _ ?_
                                  clear hK K
                                  try simp only [Act.put, List.setIfInBounds_toArray, List.set_cons_zero, List.set_cons_succ]
                                  refine wpAny_ready (rs := [11]) (by kernel_rfl) (by simp) ?_
                                  refine AllReady.cons (o := { dst := some 150, op := Op.load 2 (Operand.tmp 149), type := 2, pos := "ref.go:263", after := #[{ on := 10, ground := Ground.data }], guard := none }) rfl (fun K hK => ?_) ?_
                                  · have c2 : w3.cell? ⟨gx, j, none⟩ = some (.int .i64 x) := HJ.out.one HXX.out
                                    go_simp
                                    clear c2
                                    refine hK _ _ ?_
                                    clear hK K
                                    try simp only [Act.put, List.setIfInBounds_toArray, List.set_cons_zero, List.set_cons_succ]
                                    refine wpAny_ready (rs := [12]) (by kernel_rfl) (by simp) ?_
                                    refine AllReady.cons (o := { dst := some 151, op := Op.call { callee := Callee.value (Operand.func 46), args := #[Operand.tmp 146, Operand.tmp 150], argTypes := #[2, 2] }, type := 2, pos := "ref.go:263", after := #[{ on := 7, ground := Ground.data }, { on := 11, ground := Ground.data }], guard := none }) rfl (fun K hK => ?_) ?_
                                    · go_simp
                                      go_at_call 46
                                      refine (HADD.out least x _ HLE.out HXI2.out).mono ?_
                                      rintro e wq12 ⟨rfl, hq⟩
                                      replace HJ := Aside0.mk (HJ.out.drawn0 hq)
                                      clear hq
                                      refine hK _ _ ?_
                                      clear hK K
                                      try simp only [Act.put, List.setIfInBounds_toArray, List.set_cons_zero, List.set_cons_succ]
                                      refine wpAny_ready (rs := [13]) (by kernel_rfl) (by simp) ?_
                                      refine AllReady.cons (o := { dst := some 152, op := Op.call { callee := Callee.value (Operand.func 46), args := #[Operand.tmp 145, Operand.tmp 151], argTypes := #[2, 2] }, type := 2, pos := "ref.go:263", after := #[{ on := 6, ground := Ground.data }, { on := 12, ground := Ground.data }, { on := 12, ground := Ground.chain }], guard := none }) rfl (fun K hK => ?_) ?_
                                      · go_simp
                                        go_at_call 46
                                        refine (HADD.out y (wrap64 (least + x)) _ HYI.out (D13.wrap_in _)).mono ?_
                                        rintro e wq13 ⟨rfl, hq⟩
                                        replace HJ := Aside0.mk (HJ.out.drawn0 hq)
                                        clear hq
                                        refine hK _ _ ?_
                                        clear hK K
                                        try simp only [Act.put, List.setIfInBounds_toArray, List.set_cons_zero, List.set_cons_succ]
                                        refine wpAny_ready (rs := [14]) (by kernel_rfl) (by simp) ?_
                                        refine AllReady.cons (o := { dst := some 153, op := Op.buildSlice 22 1 #[(0, Operand.tmp 152)], type := 22, pos := "ref.go:263", after := #[{ on := 13, ground := Ground.data }], guard := none }) rfl (fun K hK => ?_) ?_
                                        · go_simp
                                          refine hK _ _ ?_
                                          clear hK K
                                          try simp only [Act.put, List.setIfInBounds_toArray, List.set_cons_zero, List.set_cons_succ]
                                          refine wpAny_ready (rs := [15]) (by kernel_rfl) (by simp) ?_
                                          refine AllReady.cons (o := { dst := some 154, op := Op.call { callee := Callee.builtin Builtin.append, args := #[Operand.tmp 139, Operand.tmp 153], argTypes := #[22, 22] }, type := 22, pos := "ref.go:263", after := #[{ on := 0, ground := Ground.data }, { on := 14, ground := Ground.data }, { on := 13, ground := Ground.chain }], guard := none }) rfl (fun K hK => ?_) ?_
                                          · refine oper_of_list (by rintro ⟨_, _, h⟩; exact h) ?_
                                            refine print_append_num (w0 := wq13) W.heap.size rfl (.tmp 139) (.tmp 153) 22 2 .i64 8 rfl Try.underlying22 dl_info (by decide) (.slice (some ⟨bk, 0, none⟩) l.length cl) l (wrap64 (y + wrap64 (least + x))) rfl rfl HJ.out.ho (Below.refl _ _) HJ.out.base (by have := HLL.out; have := HM.out; omega) ?_
                                            intro v2 w2 ho2 hb2 hg2 hat2
                                            have HO5 := Aside0.mk ho2
                                            have HP5 := Aside0.mk (HJ.out.after hg2 hb2 HNE.out)
                                            have HN5 := Aside0.mk (show v2.ownBlock ≠ some gx from own_still HJ.out.hx hat2 HNE.out)
                                            clear ho2 hb2 hg2 hat2
                                            show K _ _
                                            refine hK _ _ ?_
                                            clear hK K
                                            try simp only [Act.put, List.setIfInBounds_toArray, List.set_cons_zero, List.set_cons_succ]
                                            refine wpAny_ready (rs := [16]) (by kernel_rfl) (by simp) ?_
                                            refine AllReady.cons (o := { dst := some 11, op := Op.assign (Operand.tmp 154), type := 22, pos := "ref.go:263", after := #[{ on := 15, ground := Ground.data }, { on := 15, ground := Ground.chain }, { on := 0, ground := Ground.phase }, { on := 1, ground := Ground.phase }, { on := 2, ground := Ground.phase }, { on := 3, ground := Ground.phase }, { on := 4, ground := Ground.phase }, { on := 5, ground := Ground.phase }, { on := 6, ground := Ground.phase }, { on := 7, ground := Ground.phase }, { on := 8, ground := Ground.phase }, { on := 9, ground := Ground.phase }, { on := 10, ground := Ground.phase }, { on := 11, ground := Ground.phase }, { on := 12, ground := Ground.phase }, { on := 13, ground := Ground.phase }, { on := 14, ground := Ground.phase }, { on := 15, ground := Ground.phase }], guard := none }) rfl (fun K hK => ?_) ?_
                                            · go_simp
                                              refine hK _ _ ?_
                                              clear hK K
                                              try simp only [Act.put, List.setIfInBounds_toArray, List.set_cons_zero, List.set_cons_succ]
                                              refine wpAny_done (by kernel_rfl) ?_ _
                                              go_wp2
                                              go_roundw
                                              case rel => exact ⟨j + 1, l ++ [wrap64 (y + wrap64 (least + x))], by go_num, Hj.out, HLF2, ⟨HP5.out.1⟩, ⟨HP5.out.2.1⟩, ⟨HP5.out.2.2⟩, HO5, HN5, ⟨by have := HLM.out; simp; omega⟩, ⟨fun z hz => (List.mem_append.1 hz).elim (HLI.out z) (fun h => by rw [List.mem_singleton.1 h]; exact D13.wrap_in _)⟩⟩
                                              case measure => exact meas_up Hj.out
                                            exact AllReady.nil
                                          exact AllReady.nil
                                        exact AllReady.nil
                                      exact AllReady.nil
                                    exact AllReady.nil
                                  exact AllReady.nil
                                refine AllReady.cons (o := { dst := some 150, op := Op.load 2 (Operand.tmp 149), type := 2, pos := "ref.go:263", after := #[{ on := 10, ground := Ground.data }], guard := none }) rfl (fun K hK => ?_) ?_
                                · have c2 : w3.cell? ⟨gx, j, none⟩ = some (.int .i64 x) := HJ.out.one HXX.out
                                  go_simp
                                  clear c2
                                  refine hK _ _ ?_
                                  clear hK K
                                  try simp only [Act.put, List.setIfInBounds_toArray, List.set_cons_zero, List.set_cons_succ]
                                  refine wpAny_ready (rs := [6, 12]) (by kernel_rfl) (by simp) ?_
                                  refine AllReady.cons (o := { dst := some 145, op := Op.load 2 (Operand.tmp 144), type := 2, pos := "ref.go:263", after := #[{ on := 5, ground := Ground.data }], guard := none }) rfl (fun K hK => ?_) ?_
                                  · have c1 : w3.cell? ⟨bk, l.length - 1, none⟩ = some (.int .i64 y) := (HJ.out.last HL1.out).trans (by rw [HY.out])
                                    go_simp
                                    clear c1
                                    refine hK _ _ ?_
                                    clear hK K
                                    try simp only [Act.put, List.setIfInBounds_toArray, List.set_cons_zero, List.set_cons_succ]
                                    refine wpAny_ready (rs := [12]) (by kernel_rfl) (by simp) ?_
                                    refine AllReady.cons (o := { dst := some 151, op := Op.call { callee := Callee.value (Operand.func 46), args := #[Operand.tmp 146, Operand.tmp 150], argTypes := #[2, 2] }, type := 2, pos := "ref.go:263", after := #[{ on := 7, ground := Ground.data }, { on := 11, ground := Ground.data }], guard := none }) rfl (fun K hK => ?_) ?_
                                    · go_simp
                                      go_at_call 46
                                      refine (HADD.out least x _ HLE.out HXI2.out).mono ?_
                                      rintro e wq12 ⟨rfl, hq⟩
                                      replace HJ := Aside0.mk (HJ.out.drawn0 hq)
                                      clear hq
                                      refine hK _ _ ?_
                                      clear hK K
                                      try simp only [Act.put, List.setIfInBounds_toArray, List.set_cons_zero, List.set_cons_succ]
                                      refine wpAny_ready (rs := [13]) (by kernel_rfl) (by simp) ?_
                                      refine AllReady.cons (o := { dst := some 152, op := Op.call { callee := Callee.value (Operand.func 46), args := #[Operand.tmp 145, Operand.tmp 151], argTypes := #[2, 2] }, type := 2, pos := "ref.go:263", after := #[{ on := 6, ground := Ground.data }, { on := 12, ground := Ground.data }, { on := 12, ground := Ground.chain }], guard := none }) rfl (fun K hK => ?_) ?_
                                      · go_simp
                                        go_at_call 46
                                        refine (HADD.out y (wrap64 (least + x)) _ HYI.out (D13.wrap_in _)).mono ?_
                                        rintro e wq13 ⟨rfl, hq⟩
                                        replace HJ := Aside0.mk (HJ.out.drawn0 hq)
                                        clear hq
                                        refine hK _ _ ?_
                                        clear hK K
                                        try simp only [Act.put, List.setIfInBounds_toArray, List.set_cons_zero, List.set_cons_succ]
                                        refine wpAny_ready (rs := [14]) (by kernel_rfl) (by simp) ?_
                                        refine AllReady.cons (o := { dst := some 153, op := Op.buildSlice 22 1 #[(0, Operand.tmp 152)], type := 22, pos := "ref.go:263", after := #[{ on := 13, ground := Ground.data }], guard := none }) rfl (fun K hK => ?_) ?_
                                        · go_simp
                                          refine hK _ _ ?_
                                          clear hK K
                                          try simp only [Act.put, List.setIfInBounds_toArray, List.set_cons_zero, List.set_cons_succ]
                                          refine wpAny_ready (rs := [15]) (by kernel_rfl) (by simp) ?_
                                          refine AllReady.cons (o := { dst := some 154, op := Op.call { callee := Callee.builtin Builtin.append, args := #[Operand.tmp 139, Operand.tmp 153], argTypes := #[22, 22] }, type := 22, pos := "ref.go:263", after := #[{ on := 0, ground := Ground.data }, { on := 14, ground := Ground.data }, { on := 13, ground := Ground.chain }], guard := none }) rfl (fun K hK => ?_) ?_
                                          · refine oper_of_list (by rintro ⟨_, _, h⟩; exact h) ?_
                                            refine print_append_num (w0 := wq13) W.heap.size rfl (.tmp 139) (.tmp 153) 22 2 .i64 8 rfl Try.underlying22 dl_info (by decide) (.slice (some ⟨bk, 0, none⟩) l.length cl) l (wrap64 (y + wrap64 (least + x))) rfl rfl HJ.out.ho (Below.refl _ _) HJ.out.base (by have := HLL.out; have := HM.out; omega) ?_
                                            intro v2 w2 ho2 hb2 hg2 hat2
                                            have HO5 := Aside0.mk ho2
                                            have HP5 := Aside0.mk (HJ.out.after hg2 hb2 HNE.out)
                                            have HN5 := Aside0.mk (show v2.ownBlock ≠ some gx from own_still HJ.out.hx hat2 HNE.out)
                                            clear ho2 hb2 hg2 hat2
                                            show K _ _
                                            refine hK _ _ ?_
                                            clear hK K
                                            try simp only [Act.put, List.setIfInBounds_toArray, List.set_cons_zero, List.set_cons_succ]
                                            refine wpAny_ready (rs := [16]) (by kernel_rfl) (by simp) ?_
                                            refine AllReady.cons (o := { dst := some 11, op := Op.assign (Operand.tmp 154), type := 22, pos := "ref.go:263", after := #[{ on := 15, ground := Ground.data }, { on := 15, ground := Ground.chain }, { on := 0, ground := Ground.phase }, { on := 1, ground := Ground.phase }, { on := 2, ground := Ground.phase }, { on := 3, ground := Ground.phase }, { on := 4, ground := Ground.phase }, { on := 5, ground := Ground.phase }, { on := 6, ground := Ground.phase }, { on := 7, ground := Ground.phase }, { on := 8, ground := Ground.phase }, { on := 9, ground := Ground.phase }, { on := 10, ground := Ground.phase }, { on := 11, ground := Ground.phase }, { on := 12, ground := Ground.phase }, { on := 13, ground := Ground.phase }, { on := 14, ground := Ground.phase }, { on := 15, ground := Ground.phase }], guard := none }) rfl (fun K hK => ?_) ?_
                                            · go_simp
                                              refine hK _ _ ?_
                                              clear hK K
                                              try simp only [Act.put, List.setIfInBounds_toArray, List.set_cons_zero, List.set_cons_succ]
                                              refine wpAny_done (by kernel_rfl) ?_ _
                                              go_wp2
                                              go_roundw
                                              case rel => exact ⟨j + 1, l ++ [wrap64 (y + wrap64 (least + x))], by go_num, Hj.out, HLF2, ⟨HP5.out.1⟩, ⟨HP5.out.2.1⟩, ⟨HP5.out.2.2⟩, HO5, HN5, ⟨by have := HLM.out; simp; omega⟩, ⟨fun z hz => (List.mem_append.1 hz).elim (HLI.out z) (fun h => by rw [List.mem_singleton.1 h]; exact D13.wrap_in _)⟩⟩
                                              case measure => exact meas_up Hj.out
                                            exact AllReady.nil
                                          exact AllReady.nil
                                        exact AllReady.nil
                                      exact AllReady.nil
                                    exact AllReady.nil
                                  refine AllReady.cons (o := { dst := some 151, op := Op.call { callee := Callee.value (Operand.func 46), args := #[Operand.tmp 146, Operand.tmp 150], argTypes := #[2, 2] }, type := 2, pos := "ref.go:263", after := #[{ on := 7, ground := Ground.data }, { on := 11, ground := Ground.data }], guard := none }) rfl (fun K hK => ?_) ?_
                                  · go_simp
                                    go_at_call 46
                                    refine (HADD.out least x _ HLE.out HXI2.out).mono ?_
                                    rintro e wq12 ⟨rfl, hq⟩
                                    replace HJ := Aside0.mk (HJ.out.drawn0 hq)
                                    clear hq
                                    refine hK _ _ ?_
                                    clear hK K
                                    try simp only [Act.put, List.setIfInBounds_toArray, List.set_cons_zero, List.set_cons_succ]
                                    refine wpAny_ready (rs := [6]) (by kernel_rfl) (by simp) ?_
                                    refine AllReady.cons (o := { dst := some 145, op := Op.load 2 (Operand.tmp 144), type := 2, pos := "ref.go:263", after := #[{ on := 5, ground := Ground.data }], guard := none }) rfl (fun K hK => ?_) ?_
                                    · have c1 : wq12.cell? ⟨bk, l.length - 1, none⟩ = some (.int .i64 y) := (HJ.out.last HL1.out).trans (by rw [HY.out])
                                      go_simp
                                      clear c1
                                      refine hK _ _ ?_
                                      clear hK K
                                      try simp only [Act.put, List.setIfInBounds_toArray, List.set_cons_zero, List.set_cons_succ]
                                      refine wpAny_ready (rs := [13]) (by kernel_rfl) (by simp) ?_
                                      refine AllReady.cons (o := { dst := some 152, op := Op.call { callee := Callee.value (Operand.func 46), args := #[Operand.tmp 145, Operand.tmp 151], argTypes := #[2, 2] }, type := 2, pos := "ref.go:263", after := #[{ on := 6, ground := Ground.data }, { on := 12, ground := Ground.data }, { on := 12, ground := Ground.chain }], guard := none }) rfl (fun K hK => ?_) ?_
                                      · go_simp
                                        go_at_call 46
                                        refine (HADD.out y (wrap64 (least + x)) _ HYI.out (D13.wrap_in _)).mono ?_
                                        rintro e wq13 ⟨rfl, hq⟩
                                        replace HJ := Aside0.mk (HJ.out.drawn0 hq)
                                        clear hq
                                        refine hK _ _ ?_
                                        clear hK K
                                        try simp only [Act.put, List.setIfInBounds_toArray, List.set_cons_zero, List.set_cons_succ]
                                        refine wpAny_ready (rs := [14]) (by kernel_rfl) (by simp) ?_
                                        refine AllReady.cons (o := { dst := some 153, op := Op.buildSlice 22 1 #[(0, Operand.tmp 152)], type := 22, pos := "ref.go:263", after := #[{ on := 13, ground := Ground.data }], guard := none }) rfl (fun K hK => ?_) ?_
                                        · go_simp
                                          refine hK _ _ ?_
                                          clear hK K
                                          try simp only [Act.put, List.setIfInBounds_toArray, List.set_cons_zero, List.set_cons_succ]
                                          refine wpAny_ready (rs := [15]) (by kernel_rfl) (by simp) ?_
                                          refine AllReady.cons (o := { dst := some 154, op := Op.call { callee := Callee.builtin Builtin.append, args := #[Operand.tmp 139, Operand.tmp 153], argTypes := #[22, 22] }, type := 22, pos := "ref.go:263", after := #[{ on := 0, ground := Ground.data }, { on := 14, ground := Ground.data }, { on := 13, ground := Ground.chain }], guard := none }) rfl (fun K hK => ?_) ?_
                                          · refine oper_of_list (by rintro ⟨_, _, h⟩; exact h) ?_
                                            refine print_append_num (w0 := wq13) W.heap.size rfl (.tmp 139) (.tmp 153) 22 2 .i64 8 rfl Try.underlying22 dl_info (by decide) (.slice (some ⟨bk, 0, none⟩) l.length cl) l (wrap64 (y + wrap64 (least + x))) rfl rfl HJ.out.ho (Below.refl _ _) HJ.out.base (by have := HLL.out; have := HM.out; omega) ?_
                                            intro v2 w2 ho2 hb2 hg2 hat2
                                            have HO5 := Aside0.mk ho2
                                            have HP5 := Aside0.mk (HJ.out.after hg2 hb2 HNE.out)
                                            have HN5 := Aside0.mk (show v2.ownBlock ≠ some gx from own_still HJ.out.hx hat2 HNE.out)
                                            clear ho2 hb2 hg2 hat2
                                            show K _ _
                                            refine hK _ _ ?_
                                            clear hK K
                                            try simp only [Act.put, List.setIfInBounds_toArray, List.set_cons_zero, List.set_cons_succ]
                                            refine wpAny_ready (rs := [16]) (by kernel_rfl) (by simp) ?_
                                            refine AllReady.cons (o := { dst := some 11, op := Op.assign (Operand.tmp 154), type := 22, pos := "ref.go:263", after := #[{ on := 15, ground := Ground.data }, { on := 15, ground := Ground.chain }, { on := 0, ground := Ground.phase }, { on := 1, ground := Ground.phase }, { on := 2, ground := Ground.phase }, { on := 3, ground := Ground.phase }, { on := 4, ground := Ground.phase }, { on := 5, ground := Ground.phase }, { on := 6, ground := Ground.phase }, { on := 7, ground := Ground.phase }, { on := 8, ground := Ground.phase }, { on := 9, ground := Ground.phase }, { on := 10, ground := Ground.phase }, { on := 11, ground := Ground.phase }, { on := 12, ground := Ground.phase }, { on := 13, ground := Ground.phase }, { on := 14, ground := Ground.phase }, { on := 15, ground := Ground.phase }], guard := none }) rfl (fun K hK => ?_) ?_
                                            · go_simp
                                              refine hK _ _ ?_
                                              clear hK K
                                              try simp only [Act.put, List.setIfInBounds_toArray, List.set_cons_zero, List.set_cons_succ]
                                              refine wpAny_done (by kernel_rfl) ?_ _
                                              go_wp2
                                              go_roundw
                                              case rel => exact ⟨j + 1, l ++ [wrap64 (y + wrap64 (least + x))], by go_num, Hj.out, HLF2, ⟨HP5.out.1⟩, ⟨HP5.out.2.1⟩, ⟨HP5.out.2.2⟩, HO5, HN5, ⟨by have := HLM.out; simp; omega⟩, ⟨fun z hz => (List.mem_append.1 hz).elim (HLI.out z) (fun h => by rw [List.mem_singleton.1 h]; exact D13.wrap_in _)⟩⟩
                                              case measure => exact meas_up Hj.out
                                            exact AllReady.nil
                                          exact AllReady.nil
                                        exact AllReady.nil
                                      exact AllReady.nil
                                    exact AllReady.nil
                                  exact AllReady.nil
                                exact AllReady.nil
                              · have q6 : decide ((l.length : Int) < many) = false := decide_eq_false hlm
                                have HE := Aside0.mk (HOUT.out (by
                                  have h := HLF.out
                                  rw [← h]
                                  cases hd : xs.drop j with
                                  | nil => rfl
                                  | cons a t => rw [addS, if_pos (by have := HLL.out; omega)]))
                                clear hj hlm HOUT
                                go_wp2
                                go_roundw
                                case rel =>
                                  obtain ⟨p', l', st', e1, h⟩ := HE.out
                                  exact ⟨p', l', st', by rw [← e1], h⟩
                                case measure => exact meas_up Hp4.out
                            · obtain rfl : j = 32 := by omega
                              have HE := Aside0.mk (HOUT.out (by
                                have h := HLF.out
                                rw [List.drop_of_length_le (by have := HXL.out; omega)] at h
                                exact h))
                              clear hj HOUT
                              go_wp2
                              go_roundw
                              case rel =>
                                obtain ⟨p', l', st', e1, h⟩ := HE.out
                                exact ⟨p', l', st', by rw [← e1], h⟩
                              case measure => exact meas_up Hp4.out
                        · have q2 : decide (fr + 32 * (p : Int) < many) = false := decide_eq_false hpm
                          have HE := Aside0.mk (HOUT.out (.inr (by omega)))
                          clear hp hpm HOUT
                          go_wp2
                          go_roundw
                          case rel =>
                            obtain ⟨k', fr', l', st', e1, h⟩ := HE.out
                            exact ⟨k', fr', l', st', by rw [← e1], h⟩
                          case measure => exact HMEAS.out
                      · obtain rfl : p = 4 := by omega
                        have HE := Aside0.mk (HOUT.out (.inl rfl))
                        clear hp HOUT
                        go_wp2
                        go_roundw
                        case rel =>
                          obtain ⟨k', fr', l', st', e1, h⟩ := HE.out
                          exact ⟨k', fr', l', st', by rw [← e1], h⟩
                        case measure => exact HMEAS.out
            · have qc : decide (fr < many) = false := decide_eq_false hc
              have R1 := Aside0.mk (show Rs res (fun lb => res = .ok (l, lb)) st from HR.out.imp fun r h => by
                cases k with
                | zero => exact h
                | succ k => rw [loopS, if_neg hc] at h; exact h)
              clear HR hf1 hf2
              go_wp2
              go_meet
              case rel => exact ⟨l, st, HI, R1, HO, HLI, ⟨by have := HLL.out; have := HM.out; omega⟩⟩
        case rest =>
          clear HR0 HI HO HLL HLI
          obtain ⟨l, st, HI, HR, HO, HLI, HLL⟩ := hcut
          cases st with
          | error x =>
            obtain ⟨at_, wrong, ⟨A1, c1, hb, hg, hC⟩, ⟨rfl, hx⟩, hB⟩ := HI.out
            have k2 := (blk_cell hb 2).trans (show _ = some (.int .i64 wrong) from rfl)
            have q0 : (wrong != 0) = true := by simpa using hx
            have HBf := Aside0.mk hB
            clear hb hg hC hx hB HI
            go_wp2
            go_quiet (fail)
            go_wp2
            go_ret3
            exact rb_err HRES.out HR.out.1 (pw_below_drewN HBf.out _)
          | ok r =>
            obtain ⟨at_, wrong, hI, hst, hB⟩ := id HI.out
            obtain ⟨rfl, a, rfl, ha, hra⟩ := stR_ok hst
            obtain ⟨A1, c1, hb, hg, hCb⟩ := hI
            have k1 := (blk_cell hb 1).trans (show _ = some (.int .i64 a) from rfl)
            have k2 := (blk_cell hb 2).trans (show _ = some (.int .i64 0) from rfl)
            have HBG := Aside0.mk (begin_ok HRES.out ((show res = .ok (l, r) from HR.out).trans (by rw [hra])) ha)
            have hR := Kd.R_of_own (enc := Value.int .i64) (h1 := fun _ => rfl) (ok := fun _ => True) HO.out (fun _ _ => trivial)
            obtain ⟨Al, cl, rfl, hcl, hCl⟩ := Kd.R_reads hR
            have HWR := Aside0.mk (marquetryref13_Write.calls 71000 Al cl l (D13.listB l) 0 wc hCl hcl (D13.ref_write (by have := HLL.out; omega) HLI.out HLL.out))
            have HK1 := Aside0.mk k1
            have HA := Aside0.mk ha
            have HBf := Aside0.mk hB
            have HCC := Aside0.mk hc
            clear hb hg hCb hst hB hra hR hCl hcl k1 ha
            go_wp2_with fail
            refine HWR.out.mono ?_
            rintro e W1 ⟨v1, rfl, hR1, hb1⟩
            obtain ⟨A3, c3, rfl, hc3, hC3⟩ := Kd.R_reads hR1
            have HC3 := Aside0.mk hC3
            have k3 : ∀ w', Below W1.heap.size W1 w' → w'.cell? ⟨g, 1, none⟩ = some (.int .i64 a) := fun w' h => below_cell (hb1.trans (h.mono hb1.size)) HK1.out (World.block_lt_of_cell? _ _ HK1.out)
            have HO1 := Aside0.mk (own_belowW HO.out hb1)
            have HB1 := Aside0.mk (HBf.out.trans (hb1.mono HBf.out.size))
            clear k2 hR1 hC3 hb1 hc3 HWR HK1 HO HBf
            go_wp2_with fail
            obtain ⟨i0, hi0, _, hsz, _⟩ := info_parts info5
            obtain ⟨htake, hTd, hT1⟩ := print_take_of (P := Try.prog) (Value.int .u8) 0 25 5 .i64 Try.underlying25 hi0 hsz A0 c0 B a (by omega) (by have := HA.out; omega) hc
            rw [Int.toNat_natCast] at htake hTd hT1
            have hK0 : ∀ w', Below W1.heap.size W1 w' → Kd.C (Kd.int .u8) w' A0 (B.take a).length (B.take a) := fun w' h => Kd.C_of_reads (h1 := fun _ => rfl) (hTd _ (Kd.reads_of_C (Kd.C_below HC.out (HB1.out.trans (h.mono HB1.out.size)))))
            obtain ⟨bt, hbt⟩ : ∃ bt, bt = B.take a := ⟨_, rfl⟩
            obtain ⟨lb, hlb⟩ : ∃ lb, lb = D13.listB l := ⟨_, rfl⟩
            rw [← hbt] at htake hTd hT1 hK0 HBG
            rw [← hlb] at HBG HC3 ⊢
            have cv1 : ∀ w', Below W1.heap.size W1 w' → (convert 25 9 (.slice A3 lb.length c3)).run Try.prog w' = .ok (.string (strOfNums lb)) w' := fun w' h => Kd.C_string Try.underlying25 Try.underlying5 Try.underlying9 (Kd.C_below HC3.out h)
            have cv2 : ∀ w', Below W1.heap.size W1 w' → (convert 25 9 (.slice A0 bt.length c0)).run Try.prog w' = .ok (.string (strOfNums bt)) w' := fun w' h => Kd.C_string Try.underlying25 Try.underlying5 Try.underlying9 (hK0 w' h)
            have hBr : Below W1.heap.size W1 W1 := Below.refl _ _
            clear hTd hT1 hK0 hbt hlb hi0 hsz hc
            have HK3 := Aside0.mk k3
            by_cases hs : (strOfNums lb).toList = (strOfNums bt).toList
            · have HEQ := Aside0.mk (show beginR B = (l, (a : Int), 0) from by rw [HBG.out, if_pos hs])
              have q7 : (!(strOfNums lb).toList == (strOfNums bt).toList) = false := by simp [hs]
              clear HBG hs
              go_region_held3 (fun w' => Below W1.heap.size W1 w') (first | (repeat (first | exact hBr | apply below_drew1 | apply pw_below_drewN))) (fail)
              have k1 : W1.drew.cell? ⟨g, 1, none⟩ = some (.int .i64 a) := HK3.out _ (below_drew1 (Below.refl _ _))
              clear k3 cv1 cv2 htake hBr
              go_wp2
              refine wp_namedW fun W2 hW2 => ?_
              have k2 : W2.cell? ⟨g, 1, none⟩ = some (.int .i64 a) := by rw [hW2]; exact k1
              have HO2 := Aside0.mk (show W2.ownsRow W.heap.size 2 1 (.slice Al l.length cl) l.length (nums .i64 l) from by rw [hW2]; exact HO1.out.drew)
              have HB2 := Aside0.mk (show Below W.heap.size W W2 from by rw [hW2]; exact below_drew1 HB1.out)
              clear hW2 k1
              go_quiet (fail)
              go_wp2
              go_ret3
              rw [HEQ.out]
              exact ⟨_, rfl, by repeat (first | exact HO2.out | apply pw_own_drewN | apply World.ownsRow.drew), by repeat (first | exact HB2.out | apply pw_below_drewN | apply below_drew1)⟩
            · have HEQ := Aside0.mk (show beginR B = ([], 0, 8) from by rw [HBG.out, if_neg hs])
              have q7 : (!(strOfNums lb).toList == (strOfNums bt).toList) = true := by simp [hs]
              clear HBG hs
              go_region_held3 (fun w' => Below W1.heap.size W1 w') (first | (repeat (first | exact hBr | apply below_drew1 | apply pw_below_drewN))) (fail)
              clear k3 cv1 cv2 htake hBr
              go_wp2
              go_ret3
              rw [HEQ.out]
              exact ⟨_, rfl, World.ownsRow_nil _ _ _ _, by repeat (first | exact HB1.out | apply pw_below_drewN | apply below_drew1)⟩
end Go.Proofs.Ytbncfhmfohpfbaa.X
end

section
namespace Go.Proofs.Ytbncfhmfohpfbaa.X
open Go.RowKit Go.Proofs.YtbncfhmfohpfbaaW.PrintWords Go.Proofs.YtbncfhmfohpfbaaW.PrintLast Go.Proofs.YtbncfhmfohpfbaaW.PrintMore
attribute [local go_sem] max2_int min2_int max_two min_two max_three min_three max_four min_four
set_option linter.unusedVariables false
set_option linter.unusedSimpArgs false
def marquetryref13_Begin.f (l0 : List Int) : Option (List Int × Int × Int) := if u8All l0 = true ∧ l0.length ≤ 6000 then some (D13.beginR l0) else none
theorem marquetryref13_Begin.calls (A0 : Option Addr) (c0 : Nat) (l0 : List Int) (r1 : List Int) (r2 r3 : Int) (w : World) (hr0 : Kd.C (Kd.int .u8) w A0 l0.length l0) (hc0 : l0.length ≤ c0) (h : marquetryref13_Begin.f l0 = some (r1, r2, r3)) :
    Calls Try.prog 19 #[.slice A0 l0.length c0] w fun e w' => ∃ v0_ : Value, e = .returned (.tuple #[v0_, .int .i64 r2, .int .i64 r3]) ∧ Kd.R (Kd.int .i64) 2 w' w.heap.size (fun _ => True) v0_ r1 ∧ Below w.heap.size w w' := by
  unfold marquetryref13_Begin.f at h
  by_cases hu : u8All l0 = true ∧ l0.length ≤ 6000
  · rw [if_pos hu] at h
    have h := Option.some.inj h
    refine (rb_main A0 c0 l0 w hr0 hc0 hu.2 (u8All_iff.1 hu.1)).mono ?_
    rintro e w' ⟨v, rfl, ho, hb⟩
    rw [h] at ho ⊢
    exact ⟨v, rfl, Kd.R_of_own (enc := Value.int .i64) (h1 := fun _ => rfl) ho (fun _ _ => trivial), hb⟩
  · rw [if_neg hu] at h; cases h
end Go.Proofs.Ytbncfhmfohpfbaa.X
end

section
namespace Go.Proofs.Ytbncfhmfohpfbaa.X
open Go.RowKit Go.Proofs.YtbncfhmfohpfbaaW.PrintWords Go.Proofs.YtbncfhmfohpfbaaW.PrintLast Go.Proofs.YtbncfhmfohpfbaaW.PrintMore
attribute [local go_sem] max2_int min2_int max_two min_two max_three min_three max_four min_four
set_option linter.unusedVariables false
set_option linter.unusedSimpArgs false
def marquetryref13_Read.j0 : Nat → List Int → Int → Bool → Option (List Int × Int)
 | 0, _, _, _ => none
 | k + 1, x0, x1, x14 => if x14 = true then (some (([] : List Int), 2)) else ((marquetryref13_Begin.f x0).bind fun bt321 => (if bt321.2.2 = 0 then (if (bt321.1.length : Int) = x1 then (if bt321.2.1 < (x0.length : Int) then (some (([] : List Int), 7)) else (some (bt321.1, 0))) else (some (([] : List Int), 8))) else (some (([] : List Int), bt321.2.2))))
def marquetryref13_Read.f (k : Nat) (l0 : List Int) (a1 : Int) : Option (List Int × Int) := if a1 < 0 then (marquetryref13_Read.j0 k l0 a1 true) else (marquetryref13_Read.j0 k l0 a1 (decide (a1 > 65536)))
theorem marquetryref13_Read.mono_l : ∀ k, (∀ y0 y1 y2, LeO (marquetryref13_Read.j0 k y0 y1 y2) (marquetryref13_Read.j0 (k + 1) y0 y1 y2))
 | 0 => fun _ _ _ r h => by simp [marquetryref13_Read.j0] at h
 | k + 1 => by
  have ih0 := marquetryref13_Read.mono_l k
  ·intro y0 y1 y2
   unfold marquetryref13_Read.j0
   repeat' first
   | (with_reducible exact ih0 _ _ _)
   | (with_reducible exact LeO.refl _)
   | (with_reducible exact LeO.none _)
   | (with_reducible refine LeO.ite ?_ ?_)
   | (with_reducible refine LeO.bind ?_ (fun _ => ?_))
   | exact ih0 _ _ _
   | exact LeO.none _
   | refine LeO.ite ?_ ?_
   | refine LeO.bind ?_ (fun _ => ?_)
theorem marquetryref13_Read.mono : ∀ a0 a1 k, LeO (marquetryref13_Read.f k a0 a1) (marquetryref13_Read.f (k + 1) a0 a1) := by
 intro a0 a1 k
 have ih0 := marquetryref13_Read.mono_l k
 unfold marquetryref13_Read.f
 repeat' first
   | (with_reducible exact ih0 _ _ _)
   | (with_reducible exact LeO.refl _)
   | (with_reducible exact LeO.none _)
   | (with_reducible refine LeO.ite ?_ ?_)
   | (with_reducible refine LeO.bind ?_ (fun _ => ?_))
   | exact ih0 _ _ _
   | exact LeO.none _
   | refine LeO.ite ?_ ?_
   | refine LeO.bind ?_ (fun _ => ?_)
set_option maxHeartbeats 8000000 in
set_option maxRecDepth 100000 in
theorem marquetryref13_Read.calls (k : Nat) (A0 : Option Addr) (c0 : Nat) (l0 : List Int) (a1 : Int) (r1 : List Int) (r2 : Int) (w : World) (hr0 : Kd.C (Kd.int .u8) w A0 l0.length l0) (hc0 : l0.length ≤ c0) (h : marquetryref13_Read.f k l0 a1 = some (r1, r2)) :
  Calls Try.prog 23 #[.slice A0 l0.length c0, .int .i64 a1] w fun e w' => ∃ v0_ : Value, e = .returned (.tuple #[v0_, .int .i64 r2]) ∧ Kd.R (Kd.int .i64) 2 w' w.heap.size (fun _ => True) v0_ r1 ∧ Below w.heap.size w w' := by
 have HR0 := Aside0.mk hr0
 have HC0 := Aside0.mk hc0
 clear hr0 hc0
 have HB := Aside0.mk (Below.refl w.heap.size w)
 have H : (if a1 < 0 then (marquetryref13_Read.j0 k l0 a1 true) else (marquetryref13_Read.j0 k l0 a1 (decide (a1 > 65536)))) = some (r1, r2) := h
 clear h
 have HC3 := Aside0.mk H
 clear H
 go_enter Try.func23, Try.ntmps23
 go_upto_region 1 with (fail)
 go_cut [14] (fun v14 wc => ∃ (kq : Nat) (x14_2 : Bool), v14 = .bool x14_2 ∧ Aside0 (marquetryref13_Read.j0 kq l0 a1 x14_2 = some (r1, r2)) ∧ Aside0 (kq ≤ k) ∧ Aside0 (Below w.heap.size w wc))
 case first =>
  have H := HC3.out
  clear HC3
  by_cases c4 : a1 < 0
  ·rw [if_pos c4] at H
   have c4b0 : decide (a1 < 0) = true := decide_eq_true c4
   clear c4
   (first | rw [c4b0] | (simp only [i64_w, i32_w]; rw [c4b0]) | skip)
   have H' := Aside0.mk H
   clear H
   go_wp2
   go_meet
   case rel => exact ⟨_, (true), (by first | rfl | (simp; done) | (simp [*]; done)), H', ⟨by first | omega | exact Nat.le_refl _⟩, ⟨by repeat (first | (with_reducible first | exact HB.out | apply below_alloc | apply pw_below_drewN | apply below_drew1) | exact HB.out)⟩⟩
  ·rw [if_neg c4] at H
   have c4b0 : decide (a1 < 0) = false := decide_eq_false c4
   clear c4
   (first | rw [c4b0] | (simp only [i64_w, i32_w]; rw [c4b0]) | skip)
   have H' := Aside0.mk H
   clear H
   go_wp2
   go_meet
   case rel => exact ⟨_, (decide (a1 > 65536)), (by first | rfl | (simp; done) | (simp [*]; done)), H', ⟨by first | omega | exact Nat.le_refl _⟩, ⟨by repeat (first | (with_reducible first | exact HB.out | apply below_alloc | apply pw_below_drewN | apply below_drew1) | exact HB.out)⟩⟩
 case rest =>
  clear HC3
  try clear c2
  try clear p2
  try clear c4
  try clear c4b0
  obtain ⟨kq, x14_2, rfl, HA, HJ2, HB⟩ := hcut
  cases kq with
  | zero => exact absurd HA.out (by simp [marquetryref13_Read.j0])
  | succ kj2 =>
   have H := HA.out
   clear HA
   simp only [marquetryref13_Read.j0] at H
   by_cases c5 : x14_2 = true
   ·subst c5
    have H1 : (some (([] : List Int), 2)) = some (r1, r2) := by rw [if_pos rfl] at H; exact H
    clear H
    have H := H1
    clear H1
    simp only [Option.some.injEq, Prod.mk.injEq] at H
    obtain ⟨rfl, rfl⟩ := H
    go_wp2
    go_ret2
    exact ⟨_, by first | rfl | (simp [errW_none, errW_some] <;> rfl) | (simp [*, errW_none, errW_some] <;> rfl), by first | exact Kd.R_nil _ _ _ _ _ | exact Kd.N_nil _ _ _ _ _ | exact Kd.V_nil _ _ _ _ _ | exact Kd.Q_nil _ _ _ _ _ | exact Kd.S_nil _ _ _ _ _, by repeat (first | (with_reducible first | exact HB.out | apply below_alloc | apply pw_below_drewN | apply below_drew1) | exact HB.out)⟩
   ·replace c5 := Bool.eq_false_iff.mpr c5
    subst c5
    have H1 : ((marquetryref13_Begin.f l0).bind fun bt321 => (if bt321.2.2 = 0 then (if (bt321.1.length : Int) = a1 then (if bt321.2.1 < (l0.length : Int) then (some (([] : List Int), 7)) else (some (bt321.1, 0))) else (some (([] : List Int), 8))) else (some (([] : List Int), bt321.2.2)))) = some (r1, r2) := by rw [if_neg (show ¬ (false = true) by decide)] at H; exact H
    clear H
    have H := H1
    clear H1
    replace H := Option.bind_eq_some_iff.mp H
    obtain ⟨⟨t321, t322, t323⟩, A60, H⟩ := H
    replace H : (if t323 = 0 then (if (t321.length : Int) = a1 then (if t322 < (l0.length : Int) then (some (([] : List Int), 7)) else (some (t321, 0))) else (some (([] : List Int), 8))) else (some (([] : List Int), t323))) = some (r1, r2) := H
    have A6 := Aside0.mk A60
    clear A60
    by_cases c7 : t323 = 0
    ·rw [if_pos c7] at H
     have c7b0 : (t323 == 0) = true := beq_iff_eq.mpr c7
     have c7b1 : (t323 != 0) = false := bne_eq_false_iff_eq.mpr c7
     clear c7
     by_cases c8 : (t321.length : Int) = a1
     ·rw [if_pos c8] at H
      have c8b0 : ((t321.length : Int) == a1) = true := beq_iff_eq.mpr c8
      have c8b1 : ((t321.length : Int) != a1) = false := bne_eq_false_iff_eq.mpr c8
      clear c8
      by_cases c9 : t322 < (l0.length : Int)
      ·rw [if_pos c9] at H
       have c9b0 : decide (t322 < (l0.length : Int)) = true := decide_eq_true c9
       clear c9
       simp only [Option.some.injEq, Prod.mk.injEq] at H
       obtain ⟨rfl, rfl⟩ := H
       go_wp2_with (first | ((with_reducible refine gate_callee (f := 19) rfl ?_); refine goesL_ (some 17) rfl rfl Try.func19 (by kernel_rfl) rfl #[.slice A0 l0.length c0] rfl (by (try simp only [List.map_toArray, List.map_cons, List.map_nil]); first | done | rfl | (simp only [List.length_drop, List.length_take]; rfl)) ?_; (with_reducible refine (marquetryref13_Begin.calls _ _ l0 t321 t322 t323 _ ?side1 ?side2 A6.out).mono ?_); (case side1 => repeat (first | exact (Kd.C_below HR0.out HB.out) | (with_reducible refine Kd.C_alloc ?_ _) | (with_reducible refine Kd.C_drewN ?_ _) | (with_reducible refine Kd.C_drew ?_))); (case side2 => exact HC0.out); rintro e w10 ⟨v324, rfl, ho0, hb⟩; refine ⟨_, rfl, ?_⟩; have n0_ := Aside0.mk (Kd.R_lower ho0 (below_size (by repeat (first | (with_reducible first | exact HB.out | apply below_alloc | apply pw_below_drewN | apply below_drew1) | exact HB.out)))); have n1_ := Aside0.mk (below_step (by repeat (first | (with_reducible first | exact HB.out | apply below_alloc | apply pw_below_drewN | apply below_drew1) | exact HB.out)) hb); clear HB; have HO325 := n0_; have HB := n1_; clear n0_ n1_; (try clear hb); (try clear hb2); (try clear hk); (try clear hi); (try clear ho0); obtain ⟨Ao11, co11, eo11⟩ := Kd.R_slice HO325.out; subst eo11))
       go_ret2
       exact ⟨_, by first | rfl | (simp [errW_none, errW_some] <;> rfl) | (simp [*, errW_none, errW_some] <;> rfl), by first | exact Kd.R_nil _ _ _ _ _ | exact Kd.N_nil _ _ _ _ _ | exact Kd.V_nil _ _ _ _ _ | exact Kd.Q_nil _ _ _ _ _ | exact Kd.S_nil _ _ _ _ _, by repeat (first | (with_reducible first | exact HB.out | apply below_alloc | apply pw_below_drewN | apply below_drew1) | exact HB.out)⟩
      ·rw [if_neg c9] at H
       have c9b0 : decide (t322 < (l0.length : Int)) = false := decide_eq_false c9
       clear c9
       simp only [Option.some.injEq, Prod.mk.injEq] at H
       obtain ⟨rfl, rfl⟩ := H
       go_wp2_with (first | ((with_reducible refine gate_callee (f := 19) rfl ?_); refine goesL_ (some 17) rfl rfl Try.func19 (by kernel_rfl) rfl #[.slice A0 l0.length c0] rfl (by (try simp only [List.map_toArray, List.map_cons, List.map_nil]); first | done | rfl | (simp only [List.length_drop, List.length_take]; rfl)) ?_; (with_reducible refine (marquetryref13_Begin.calls _ _ l0 t321 t322 t323 _ ?side1 ?side2 A6.out).mono ?_); (case side1 => repeat (first | exact (Kd.C_below HR0.out HB.out) | (with_reducible refine Kd.C_alloc ?_ _) | (with_reducible refine Kd.C_drewN ?_ _) | (with_reducible refine Kd.C_drew ?_))); (case side2 => exact HC0.out); rintro e w12 ⟨v324, rfl, ho0, hb⟩; refine ⟨_, rfl, ?_⟩; have n0_ := Aside0.mk (Kd.R_lower ho0 (below_size (by repeat (first | (with_reducible first | exact HB.out | apply below_alloc | apply pw_below_drewN | apply below_drew1) | exact HB.out)))); have n1_ := Aside0.mk (below_step (by repeat (first | (with_reducible first | exact HB.out | apply below_alloc | apply pw_below_drewN | apply below_drew1) | exact HB.out)) hb); clear HB; have HO325 := n0_; have HB := n1_; clear n0_ n1_; (try clear hb); (try clear hb2); (try clear hk); (try clear hi); (try clear ho0); obtain ⟨Ao13, co13, eo13⟩ := Kd.R_slice HO325.out; subst eo13))
       go_ret2
       exact ⟨_, by first | rfl | (simp [errW_none, errW_some] <;> rfl) | (simp [*, errW_none, errW_some] <;> rfl), by (with_reducible repeat (first | apply Kd.R_alloc | apply Kd.R_drewN | apply Kd.R_drew)); exact HO325.out, by repeat (first | (with_reducible first | exact HB.out | apply below_alloc | apply pw_below_drewN | apply below_drew1) | exact HB.out)⟩
     ·rw [if_neg c8] at H
      have c8b0 : ((t321.length : Int) == a1) = false := beq_eq_false_iff_ne.mpr c8
      have c8b1 : ((t321.length : Int) != a1) = true := bne_iff_ne.mpr c8
      simp only [Option.some.injEq, Prod.mk.injEq] at H
      obtain ⟨rfl, rfl⟩ := H
      go_wp2_with (first | ((with_reducible refine gate_callee (f := 19) rfl ?_); refine goesL_ (some 17) rfl rfl Try.func19 (by kernel_rfl) rfl #[.slice A0 l0.length c0] rfl (by (try simp only [List.map_toArray, List.map_cons, List.map_nil]); first | done | rfl | (simp only [List.length_drop, List.length_take]; rfl)) ?_; (with_reducible refine (marquetryref13_Begin.calls _ _ l0 t321 t322 t323 _ ?side1 ?side2 A6.out).mono ?_); (case side1 => repeat (first | exact (Kd.C_below HR0.out HB.out) | (with_reducible refine Kd.C_alloc ?_ _) | (with_reducible refine Kd.C_drewN ?_ _) | (with_reducible refine Kd.C_drew ?_))); (case side2 => exact HC0.out); rintro e w14 ⟨v324, rfl, ho0, hb⟩; refine ⟨_, rfl, ?_⟩; have n0_ := Aside0.mk (Kd.R_lower ho0 (below_size (by repeat (first | (with_reducible first | exact HB.out | apply below_alloc | apply pw_below_drewN | apply below_drew1) | exact HB.out)))); have n1_ := Aside0.mk (below_step (by repeat (first | (with_reducible first | exact HB.out | apply below_alloc | apply pw_below_drewN | apply below_drew1) | exact HB.out)) hb); clear HB; have HO325 := n0_; have HB := n1_; clear n0_ n1_; (try clear hb); (try clear hb2); (try clear hk); (try clear hi); (try clear ho0); obtain ⟨Ao15, co15, eo15⟩ := Kd.R_slice HO325.out; subst eo15))
      go_ret2
      exact ⟨_, by first | rfl | (simp [errW_none, errW_some] <;> rfl) | (simp [*, errW_none, errW_some] <;> rfl), by first | exact Kd.R_nil _ _ _ _ _ | exact Kd.N_nil _ _ _ _ _ | exact Kd.V_nil _ _ _ _ _ | exact Kd.Q_nil _ _ _ _ _ | exact Kd.S_nil _ _ _ _ _, by repeat (first | (with_reducible first | exact HB.out | apply below_alloc | apply pw_below_drewN | apply below_drew1) | exact HB.out)⟩
    ·rw [if_neg c7] at H
     have c7b0 : (t323 == 0) = false := beq_eq_false_iff_ne.mpr c7
     have c7b1 : (t323 != 0) = true := bne_iff_ne.mpr c7
     simp only [Option.some.injEq, Prod.mk.injEq] at H
     obtain ⟨rfl, rfl⟩ := H
     go_wp2_with (first | ((with_reducible refine gate_callee (f := 19) rfl ?_); refine goesL_ (some 17) rfl rfl Try.func19 (by kernel_rfl) rfl #[.slice A0 l0.length c0] rfl (by (try simp only [List.map_toArray, List.map_cons, List.map_nil]); first | done | rfl | (simp only [List.length_drop, List.length_take]; rfl)) ?_; (with_reducible refine (marquetryref13_Begin.calls _ _ l0 t321 t322 t323 _ ?side1 ?side2 A6.out).mono ?_); (case side1 => repeat (first | exact (Kd.C_below HR0.out HB.out) | (with_reducible refine Kd.C_alloc ?_ _) | (with_reducible refine Kd.C_drewN ?_ _) | (with_reducible refine Kd.C_drew ?_))); (case side2 => exact HC0.out); rintro e w16 ⟨v324, rfl, ho0, hb⟩; refine ⟨_, rfl, ?_⟩; have n0_ := Aside0.mk (Kd.R_lower ho0 (below_size (by repeat (first | (with_reducible first | exact HB.out | apply below_alloc | apply pw_below_drewN | apply below_drew1) | exact HB.out)))); have n1_ := Aside0.mk (below_step (by repeat (first | (with_reducible first | exact HB.out | apply below_alloc | apply pw_below_drewN | apply below_drew1) | exact HB.out)) hb); clear HB; have HO325 := n0_; have HB := n1_; clear n0_ n1_; (try clear hb); (try clear hb2); (try clear hk); (try clear hi); (try clear ho0)))
     go_ret2
     exact ⟨_, by first | rfl | (simp [errW_none, errW_some] <;> rfl) | (simp [*, errW_none, errW_some] <;> rfl), by first | exact Kd.R_nil _ _ _ _ _ | exact Kd.N_nil _ _ _ _ _ | exact Kd.V_nil _ _ _ _ _ | exact Kd.Q_nil _ _ _ _ _ | exact Kd.S_nil _ _ _ _ _, by repeat (first | (with_reducible first | exact HB.out | apply below_alloc | apply pw_below_drewN | apply below_drew1) | exact HB.out)⟩
end Go.Proofs.Ytbncfhmfohpfbaa.X
end

section
namespace Go.Proofs.Ytbncfhmfohpfbaa.X
open Go.RowKit Go.Proofs.YtbncfhmfohpfbaaW.PrintWords Go.Proofs.YtbncfhmfohpfbaaW.PrintLast Go.Proofs.YtbncfhmfohpfbaaW.PrintMore
set_option linter.unusedVariables false
set_option linter.unusedSimpArgs false
def LentI (w : World) (A : Option Addr) (c : Nat) (l : List Int) (W : World) : Prop := Kd.C (Kd.int .i64) W A (l ++ [77]).length (l ++ [77]) ∧ l.length + 1 ≤ c ∧ Kd.C (Kd.int .i64) W A l.length l
def LentB (w : World) (A : Option Addr) (c : Nat) (l : List Int) (W : World) : Prop := Kd.C (Kd.int .u8) W A (l ++ [77]).length (l ++ [77]) ∧ l.length + 1 ≤ c ∧ Kd.C (Kd.int .u8) W A l.length l
theorem LentI.keep {w : World} {A : Option Addr} {c : Nat} {l : List Int} {W W' : World} (h : LentI w A c l W) (hb : Below W.heap.size W W') : LentI w A c l W' := ⟨Kd.C_below h.1 hb, h.2.1, Kd.C_below h.2.2 hb⟩
theorem LentB.keep {w : World} {A : Option Addr} {c : Nat} {l : List Int} {W W' : World} (h : LentB w A c l W) (hb : Below W.heap.size W W') : LentB w A c l W' := ⟨Kd.C_below h.1 hb, h.2.1, Kd.C_below h.2.2 hb⟩
theorem slice_up {P : Program} {t e : TypeId} {i : TypeInfo} (ht : P.underlying t = some (.slice e)) (hi : P.info? e = some i) (hsz : i.size = 1) (A : Option Addr) (n c m : Nat) (hm : m ≤ c) (W : World) : (Instr.slice t (.slice A n c) none (some (.int .i64 (m : Int))) none).run P W = .ok (.slice A m c) W := by
  have hel : P.elem t = e := by simp [Program.elem, ht]
  have hu : P.underlying t = some (.slice (P.elem t)) := by rw [hel]; exact ht
  have ha : (A.map fun x => x.add 0) = A := by cases A <;> simp [Addr.add]
  rw [run_slice_h W t A n c hu .i64 (m : Int) (by omega) (by omega), hel]
  simp [sizeOf, typeInfo, hi, hsz, sliced, Result.andThen, ha]
theorem lentB_end {w w3 : World} {v3 : Value} {l : List Int} (ho3 : w3.ownsRow w.heap.size 5 1 v3 (l ++ [77]).length (nums .u8 (l ++ [77]))) (hl : l.length ≤ 1000000) : ∃ A c, v3 = .slice A (l.length + 1) c ∧ LentB w A c l w3 ∧ ∀ W : World, (Instr.slice 25 (.slice A (l.length + 1) c) none (some (.int .i64 (l.length : Int))) none).run Try.prog W = .ok (.slice A l.length c) W := by
  obtain ⟨A3, c3, rfl⟩ := own_formD ho3
  obtain ⟨k1, k2, k3⟩ := Kd.R_reads' (Kd.R_of_own (enc := Value.int .u8) (h1 := fun _ => rfl) (ok := fun _ => True) ho3 (fun _ _ => trivial))
  have hlen : (l ++ [77]).length = l.length + 1 := by simp
  obtain ⟨i0, hi0, _, hsz, _⟩ := info_parts info5
  obtain ⟨htake, hTd, hT1⟩ := print_take_of (P := Try.prog) (Value.int .u8) 0 25 5 .i64 Try.underlying25 hi0 hsz A3 c3 (l ++ [77]) l.length (by omega) (by omega) k2
  rw [Int.toNat_natCast, List.take_left] at htake hTd
  refine ⟨A3, c3, by rw [hlen], ⟨k3, by omega, Kd.C_of_reads (h1 := fun _ => rfl) (hTd _ (Kd.reads_of_C k3))⟩, fun W => ?_⟩
  have := htake W
  rwa [hlen] at this
set_option maxRecDepth 100000 in
set_option maxHeartbeats 4000000 in
theorem lentB (A0 : Option Addr) (c0 : Nat) (l : List Int) (w : World) (hC : Kd.C (Kd.int .u8) w A0 l.length l) (hc : l.length ≤ c0) (hl : l.length ≤ 100000) :
    Calls Try.prog 17 #[.slice A0 l.length c0] w fun e w' => ∃ A c, e = .returned (.slice A l.length c) ∧ LentB w A c l w' ∧ Below w.heap.size w w' := by
  have HC := Aside0.mk hC
  have HB := Aside0.mk (Below.refl w.heap.size w)
  clear hC
  go_enter Try.func17, Try.ntmps17
  go_wp2_with (first
    | ((with_reducible refine gate_dst (N := 3) rfl ?_); refine Kd.R_lit (Kd.int .u8) _ 5 ?hg (N := 3) ?hd (xs := ([] : List Int)) (inner := []) (ok := fun _ => True) (okp := fun _ => True) ?hr ?hp (fun _ hk => hk) trivial (Below.refl _ _) (Nat.le_refl _) (by simp) ?_; (case hd => rfl); (case hg => rfl); (case hr => first | (go_simp; done) | (go_simp; rfl)); (case hp => exact (Reps.none _ _)); intro v1 w1 ho1 hb1 hg_ hnew_; clear hg_ hnew_; have HO1 := Aside0.mk (Kd.own_of_R (enc := Value.int .u8) (h1 := fun _ => rfl) (Kd.R_lower ho1 (Nat.le_refl w.heap.size))); have HB1 := Aside0.mk hb1; have HC1 := Aside0.mk (Kd.C_below HC.out hb1); have HS1 := Aside0.mk hb1.size; clear ho1 hb1)
    | ((with_reducible refine gate_builtin (b := .append) (xs := #[.tmp 3, .tmp 4]) rfl ?_); at_builtin; refine print_append_row (w0 := w) w.heap.size rfl (.tmp 3) (.tmp 4) 25 5 .u8 1 rfl Try.underlying25 dg_info (by decide) _ [] l A0 l.length c0 rfl rfl HO1.out (Kd.reads_of_C HC1.out) HB1.out HS1.out (by simp; omega) ?_; intro v2 w2 ho2 hb2 hg2 hat2; rw [List.nil_append] at ho2; have HO2 := Aside0.mk ho2; have HB2 := Aside0.mk hb2; have HS2 := Aside0.mk hb2.size; clear ho2 hb2 hg2 hat2)
    | ((with_reducible refine gate_builtin (b := .append) (xs := #[.tmp 5, .tmp 6]) rfl ?_); at_builtin; refine print_append_num (w0 := w) w.heap.size rfl (.tmp 5) (.tmp 6) 25 5 .u8 1 rfl Try.underlying25 dg_info (by decide) v2 l 77 rfl rfl HO2.out HB2.out HS2.out (by omega) ?_; intro v3 w3 ho3 hb3 hg3 hat3; obtain ⟨A3, c3, rfl, hL3, htk3⟩ := lentB_end ho3 (by omega); have HL3 := Aside0.mk hL3; have HB3 := Aside0.mk hb3; clear ho3 hb3 hg3 hat3 hL3))
  clear HO2 HO1
  all_goals skip
  go_ret
  exact ⟨A3, c3, rfl, HL3.out, HB3.out⟩
set_option maxRecDepth 100000 in
set_option maxHeartbeats 4000000 in
theorem keptB (A : Option Addr) (c : Nat) (A0 : Option Addr) (c0 : Nat) (l : List Int) (w0 w : World) (hL : LentB w0 A c l w) (hC : Kd.C (Kd.int .u8) w A0 l.length l) (hc : l.length ≤ c0) (hl : l.length ≤ 100000) :
    Calls Try.prog 21 #[.slice A l.length c, .slice A0 l.length c0] w fun e w' => e = .returned (.bool true) ∧ Below w.heap.size w w' := by
  obtain ⟨h1, h2, h3⟩ := hL
  have cv1 : (convert 25 9 (.slice A l.length c)).run Try.prog w = .ok (.string (strOfNums l)) w := Kd.C_string Try.underlying25 Try.underlying5 Try.underlying9 h3
  have cv2 : (convert 25 9 (.slice A0 l.length c0)).run Try.prog w = .ok (.string (strOfNums l)) w := Kd.C_string Try.underlying25 Try.underlying5 Try.underlying9 hC
  obtain ⟨i0, hi0, _, hsz, _⟩ := info_parts info5
  have hsl := slice_up (P := Try.prog) Try.underlying25 hi0 hsz A l.length c (l.length + 1) h2
  have hw1 : IntKind.i64.wrap ((l.length : Int) + 1) = ((l.length + 1 : Nat) : Int) := by rw [IntWalk.i64_in _ (by omega)]; omega
  obtain ⟨m, hm⟩ : ∃ m, m = l.length + 1 := ⟨_, rfl⟩
  rw [← hm] at hsl hw1
  have p1 : (0 : Int) ≤ (l.length : Int) := by omega
  have p2 : (l.length : Int) < (m : Int) := by omega
  have p3 : ((l.length : Int)).toNat = l.length := rfl
  obtain ⟨ad, rfl, hcell⟩ := c_at h1 (l.length : Int) (by omega) (by simp; omega)
  rw [D13.rd_snoc, p3] at hcell
  obtain ⟨ls, hls⟩ : ∃ ls, ls = strOfNums l := ⟨_, rfl⟩
  rw [← hls] at cv1 cv2
  clear hi0 hsz h1 h2 h3 hC hm hls
  go_enter Try.func21, Try.ntmps21
  go_wp2
  go_ret
  exact ⟨rfl, Below.refl _ _⟩
end Go.Proofs.Ytbncfhmfohpfbaa.X
end

section
namespace Go.Proofs.Ytbncfhmfohpfbaa.D13
set_option linter.unusedVariables false
set_option linter.unusedSimpArgs false
open Go.RowKit Go.Proofs.Ytbncfhmfohpfbaa.X Go.Proofs.YtbncfhmfohpfbaaW.PrintWords Go.Proofs.YtbncfhmfohpfbaaW.PrintLast Go.Proofs.YtbncfhmfohpfbaaW.PrintMore
theorem ref_begin {b : List Int} (hu : ∀ x ∈ b, 0 ≤ x ∧ x ≤ 255) (hl : b.length ≤ 6000) : marquetryref13_Begin.f b = some (beginR b) := by
  unfold marquetryref13_Begin.f
  rw [if_pos ⟨u8All_iff.2 hu, hl⟩]
theorem ref_read {k : Nat} (hk : 1 ≤ k) {b : List Int} (hu : ∀ x ∈ b, 0 ≤ x ∧ x ≤ 255) (hl : b.length ≤ 6000) (count : Int) : marquetryref13_Read.f k b count = some (readR b count) := by
  obtain ⟨k, rfl⟩ : ∃ j, k = j + 1 := ⟨k - 1, by omega⟩
  unfold marquetryref13_Read.f readR
  by_cases c : count < 0
  · rw [if_pos c, if_pos (.inl c), marquetryref13_Read.j0, if_pos rfl]
  · rw [if_neg c]
    by_cases c2 : count > 65536
    · rw [if_pos (.inr c2), decide_eq_true c2, marquetryref13_Read.j0, if_pos rfl]
    · rw [if_neg (by omega), decide_eq_false c2, marquetryref13_Read.j0, if_neg (by decide), ref_begin hu hl, Option.bind_some]
      split
      · split
        · split <;> rfl
        · rfl
      · rfl
theorem beginR_len (b : List Int) : (beginR b).1.length ≤ 65536 := by
  unfold beginR
  cases h : listS b with
  | error x => simp
  | ok p =>
    obtain ⟨l, r⟩ := p
    have := listS_len h
    simp only []
    split
    · omega
    · simp
theorem readR_len (b : List Int) (count : Int) : (readR b count).1.length ≤ 65536 := by
  have := beginR_len b
  unfold readR
  repeat' split
  all_goals first | exact this | simp
end Go.Proofs.Ytbncfhmfohpfbaa.D13
namespace Go.Proofs.Ytbncfhmfohpfbaa.X
open Go.RowKit Go.Proofs.YtbncfhmfohpfbaaW.PrintWords Go.Proofs.YtbncfhmfohpfbaaW.PrintLast Go.Proofs.YtbncfhmfohpfbaaW.PrintMore
set_option linter.unusedVariables false
set_option linter.unusedSimpArgs false
theorem gv_long (A : Option Addr) (c : Nat) (l : List Int) (y : Int) (w : World) (hc : l.length ≤ c) (hl : 6000 < l.length) :
    Calls Try.prog 5 #[.slice A l.length c, .int .i64 y] w fun e w' => e = .returned (.bool true) ∧ Below w.heap.size w w' := by
  have h1b : decide ((l.length : Int) > 6000) = true := decide_eq_true (by omega)
  clear hl
  go_enter Try.func5, Try.ntmps5
  go_wp2_with fail
  refine (works_true _).mono ?_
  rintro e W3 ⟨rfl, hb3⟩
  have HB3 := Aside0.mk hb3
  clear hb3
  go_wp2
  go_ret
  exact ⟨rfl, HB3.out⟩
set_option maxRecDepth 100000 in
set_option maxHeartbeats 4000000 in
theorem gv_main (A : Option Addr) (c : Nat) (b l : List Int) (y x : Int) (w : World) (hC : Kd.C (Kd.int .u8) w A b.length b) (hc : b.length ≤ c) (hl : b.length ≤ 6000) (hu : ∀ x ∈ b, 0 ≤ x ∧ x ≤ 255) (hr : D13.readR b y = (l, x)) :
    Calls Try.prog 5 #[.slice A b.length c, .int .i64 y] w fun e w' => e = .returned (.bool true) ∧ Below w.heap.size w w' := by
  have h1b : decide ((b.length : Int) > 6000) = false := decide_eq_false (by omega)
  have HL := Aside0.mk (lentB A c b w hC hc (by omega))
  have HC := Aside0.mk hC
  have HBL := Aside0.mk hl
  have hll : l.length ≤ 65536 := by have := D13.readR_len b y; rw [hr] at this; exact this
  have HW := Aside0.mk (fun (W : World) (Al : Option Addr) (cl : Nat) (h : Kd.C (Kd.int .u8) W Al b.length b) (hcl : b.length ≤ cl) => delta_Read.calls 4000 Al cl b y l x W h hcl ((D13.read_eq (by decide) hu y).trans (congrArg some hr)))
  have HR := Aside0.mk (fun (W : World) (Al : Option Addr) (cl : Nat) (h : Kd.C (Kd.int .u8) W Al b.length b) (hcl : b.length ≤ cl) => marquetryref13_Read.calls 1 Al cl b y l x W h hcl ((D13.ref_read (by decide) hu hl y).trans (congrArg some hr)))
  have HS := Aside0.mk (fun (W : World) (A1 : Option Addr) (c1 : Nat) (A2 : Option Addr) (c2 : Nat) (h1 : Kd.C (Kd.int .i64) W A1 l.length l) (h2 : Kd.C (Kd.int .i64) W A2 l.length l) (hc1 : l.length ≤ c1) (hc2 : l.length ≤ c2) => marquetrylaw13_same.calls 100001 A1 c1 l A2 c2 l true W h1 hc1 h2 hc2 (D13.same (by omega) (by omega)))
  have NS := Aside0.mk num_same
  have WT := Aside0.mk works_true
  clear hC hu hr hl hll
  go_enter Try.func5, Try.ntmps5
  go_wp2_with fail
  refine HL.out.mono ?_
  rintro e W1 ⟨A1, c1, rfl, hL1, hb1⟩
  have HL1 := Aside0.mk hL1
  have HB1 := Aside0.mk hb1
  clear hL1 hb1
  go_wp2_with fail
  refine (HW.out W1 A1 c1 HL1.out.2.2 (by have := HL1.out.2.1; omega)).mono ?_
  rintro e W2 ⟨v2, rfl, hR2, hb2⟩
  obtain ⟨A2, c2, rfl, hc2, hC2⟩ := Kd.R_reads hR2
  have HB2 := Aside0.mk (below_then HB1.out HB1.out.size hb2)
  have HC2 := Aside0.mk hC2
  have HL2 := Aside0.mk (HL1.out.keep hb2)
  have Hc2 := Aside0.mk hc2
  clear hR2 hb2 hC2 hc2
  go_wp2_with fail
  refine (HR.out W2 A c (Kd.C_below HC.out HB2.out) hc).mono ?_
  rintro e W3 ⟨v3, rfl, hR3, hb3⟩
  obtain ⟨A3, c3, rfl, hc3, hC3⟩ := Kd.R_reads hR3
  have HB3 := Aside0.mk (below_then HB2.out HB2.out.size hb3)
  have HL3 := Aside0.mk (HL2.out.keep hb3)
  have HC3 := Aside0.mk hC3
  have HC23 := Aside0.mk (Kd.C_below HC2.out hb3)
  have Hc3 := Aside0.mk hc3
  clear hR3 hb3 hC3 hc3
  go_wp2_with fail
  refine (HS.out W3 A2 c2 A3 c3 HC23.out HC3.out Hc2.out Hc3.out).mono ?_
  rintro e W4 ⟨rfl, ⟨nd4, hW4⟩⟩
  have HB4 := Aside0.mk (show Below w.heap.size w W4 from (by rw [hW4]; exact pw_below_drewN HB3.out _))
  have HL4 := Aside0.mk (show LentB w A1 c1 b W4 from (by rw [hW4]; exact HL3.out.keep (pw_below_drewN (Below.refl _ _) _)))
  clear hW4
  go_wp2_with fail
  refine (NS.out _ _).mono ?_
  rintro e W5 ⟨rfl, ⟨nd5, hW5⟩⟩
  have HB5 := Aside0.mk (show Below w.heap.size w W5 from (by rw [hW5]; exact pw_below_drewN HB4.out _))
  have HL5 := Aside0.mk (show LentB w A1 c1 b W5 from (by rw [hW5]; exact HL4.out.keep (pw_below_drewN (Below.refl _ _) _)))
  clear hW5
  go_wp2_with fail
  refine (keptB A1 c1 A c b w W5 HL5.out (Kd.C_below HC.out HB5.out) hc (by have := HBL.out; omega)).mono ?_
  rintro e W6 ⟨rfl, hb6⟩
  have HB6 := Aside0.mk (below_then HB5.out HB5.out.size hb6)
  clear hb6
  go_wp2_with fail
  refine (WT.out _).mono ?_
  rintro e W7 ⟨rfl, hb7⟩
  have HB7 := Aside0.mk (below_then HB6.out HB6.out.size hb7)
  clear hb7
  go_wp2
  go_ret
  exact ⟨rfl, HB7.out⟩
theorem gv_all (A : Option Addr) (c : Nat) (b : List Int) (y : Int) (w : World) (hC : Kd.C (Kd.int .u8) w A b.length b) (hc : b.length ≤ c) (hu : ∀ x ∈ b, 0 ≤ x ∧ x ≤ 255) :
    Calls Try.prog 5 #[.slice A b.length c, .int .i64 y] w fun e w' => e = .returned (.bool true) ∧ Below w.heap.size w w' := by
  by_cases hl : 6000 < b.length
  · exact gv_long A c b y w hc hl
  · exact gv_main A c b _ y _ w hC hc (by omega) hu rfl
end Go.Proofs.Ytbncfhmfohpfbaa.X
end

section
namespace Go.Proofs.Ytbncfhmfohpfbaa.X
open Go.RowKit Go.Proofs.YtbncfhmfohpfbaaW.PrintWords Go.Proofs.YtbncfhmfohpfbaaW.PrintLast Go.Proofs.YtbncfhmfohpfbaaW.PrintMore
attribute [local go_sem] max2_int min2_int max_two min_two max_three min_three max_four min_four
set_option linter.unusedVariables false
set_option linter.unusedSimpArgs false
def marquetrylaw13_DeltaReads.f (l0 : List Int) (a1 : Int) : Option Bool := if u8All l0 = true then some true else none
theorem marquetrylaw13_DeltaReads.calls (A0 : Option Addr) (c0 : Nat) (l0 : List Int) (a1 : Int) (r : Bool) (w : World) (hr0 : Kd.C (Kd.int .u8) w A0 l0.length l0) (hc0 : l0.length ≤ c0) (h : marquetrylaw13_DeltaReads.f l0 a1 = some r) :
    Calls Try.prog 5 #[.slice A0 l0.length c0, .int .i64 a1] w fun e w' => e = .returned (.bool r) ∧ Below w.heap.size w w' := by
  unfold marquetrylaw13_DeltaReads.f at h
  by_cases hu : u8All l0 = true
  · rw [if_pos hu] at h
    obtain rfl := Option.some.inj h
    exact gv_all A0 c0 l0 a1 w hr0 hc0 (u8All_iff.1 hu)
  · rw [if_neg hu] at h; cases h
def marquetrylaw13_DeltaReads.Pure : Prop := ∀ (l0 : List Int) (a1 : Int), ((∀ x_ ∈ l0, (Lit.int .u8 x_).wf = true) ∧ l0.length ≤ maxLen ∧ l0.length * 1 ≤ 140737488351232) → (Lit.int .i64 a1).wf = true → marquetrylaw13_DeltaReads.f l0 a1 = some true
end Go.Proofs.Ytbncfhmfohpfbaa.X
end

section
namespace Go.Proofs.Ytbncfhmfohpfbaa.Rd
open Go.ChangeShapes Go.WideShapes Go.Deep Go.RowKit Go.Joins Go.Proofs.YtbncfhmfohpfbaaW.PrintWords
structure Opens (P : Program) (t : TypeId) {α : Type} (d : Kd α) (Wf : α → Prop) : Prop where
  opens : ∀ {H : Type} {enc : TypeId × Value → H} {w : World} {base : Nat} {spare : Nat → Bool} {held : Bool} {n : Nat} {cs : List Value} {y : DataW H × List MemPlace},
    DataW.trod enc P w base spare held n t cs = some y → (∀ m ∈ y.1.weights P t, m ≤ reachBytes) → ∃ x, d.K w x cs ∧ Wf x
theorem reach_le {m : Nat} (h : m ≤ reachBytes) : m ≤ 140737488351232 := h
theorem opens_int {P : Program} {t : TypeId} {k : IntKind} (hu : P.underlying t = some (.int k)) : Opens P t (Kd.int k) (fun x => (Lit.int k x).wf = true) := by
  refine ⟨fun {H enc w base spare held n cs y} h _ => ?_⟩
  obtain ⟨x, rfl, _, hw⟩ := DataW.trod_int hu h
  exact ⟨x, rfl, hw⟩
theorem list_of {α : Type} {p : Nat → α → Prop} : ∀ (n : Nat), (∀ i, i < n → ∃ x, p i x) → ∃ xs : List α, xs.length = n ∧ ∀ i x, xs[i]? = some x → p i x
  | 0, _ => ⟨[], rfl, fun i x h => by simp at h⟩
  | n + 1, h => by
    obtain ⟨xs, hl, hx⟩ := list_of n (fun i hi => h i (by omega))
    obtain ⟨x, hp⟩ := h n (by omega)
    refine ⟨xs ++ [x], by simp [hl], fun i y hy => ?_⟩
    rcases Nat.lt_or_ge i xs.length with hi | hi
    · rw [List.getElem?_append_left hi] at hy; exact hx i y hy
    · have hi' : i = xs.length := by
        have := (List.getElem?_eq_some_iff.1 hy).1
        simp at this; omega
      subst hi'
      have : x = y := by simpa using hy
      subst this
      rw [hl]; exact hp
theorem weights_all {H : Type} {P : Program} {e : TypeId} : ∀ (ds : List (DataW H)) (d : DataW H), d ∈ ds → ∀ m ∈ d.weights P e, m ∈ DataW.weightsAll P e ds
  | [], d, h, _, _ => by simp at h
  | d0 :: ds, d, h, m, hm => by
    simp only [DataW.weightsAll, List.mem_append]
    rcases List.mem_cons.1 h with rfl | h
    · exact .inl hm
    · exact .inr (weights_all ds d h m hm)
theorem opens_slice {P : Program} {t e : TypeId} {α : Type} {d : Kd α} {Wf : α → Prop} {B : Nat} (hu : P.underlying t = some (.slice e)) (hsz : P.cellsOf e = d.sz) (hB : P.bytesOf e = B) (ho : Opens P e d Wf) :
    Opens P t (Kd.slice e d) (fun xs => (∀ x ∈ xs, Wf x) ∧ xs.length ≤ maxLen ∧ xs.length * B ≤ 140737488351232) := by
  refine ⟨fun {H enc w base spare held n cs y} h hw => ?_⟩
  rcases open_slice hu h with ⟨rfl, _⟩ | ⟨a, len, cap, m, n', D, Pl, rfl, hb, hl, hm, hmm, rfl, hx⟩
  · exact ⟨[], ⟨none, 0, rfl, Nat.le_refl _, rfl, Nat.zero_le _, fun h => absurd h (by simp)⟩, by simp⟩
  · have hlm : len ≤ m := by rw [hmm]; split <;> omega
    have hsize : len * B ≤ 140737488351232 := by
      have := hw ((((List.range len).map D).length + ((List.range (m - len)).map fun j => D (len + j)).length) * P.bytesOf e) (by simp [DataW.weights, hu])
      rw [hB] at this
      refine Nat.le_trans (Nat.mul_le_mul_right _ ?_) (reach_le this)
      simp
    obtain ⟨xs, hxl, hxs⟩ := list_of (p := fun i x => ∃ cs', w.cells? base (a.add (i * P.cellsOf e)) (P.cellsOf e) = some cs' ∧ d.K w x cs' ∧ Wf x) len (fun i hi => by
      obtain ⟨cs', h1, h2⟩ := hx i (by omega)
      obtain ⟨x, hk, hwf⟩ := ho.opens h2 (fun q hq => hw q (by
        simp only [DataW.weights, hu, List.mem_cons, List.mem_append]
        exact .inr (.inl (weights_all _ (D i) (List.mem_map.2 ⟨i, List.mem_range.2 hi, rfl⟩) q hq))))
      exact ⟨x, cs', h1, hk, hwf⟩)
    subst hxl
    refine ⟨xs, ⟨some a, cap, rfl, hl, rfl, ?_, fun _ => ⟨a, rfl, fun j p hp => ?_⟩⟩, ⟨fun x hx' => ?_, Nat.le_trans hl hm, hsize⟩⟩
    · unfold maxLen at hm; omega
    · obtain ⟨cs', h1, hk, _⟩ := hxs j p hp
      obtain ⟨_, hcl, hcc⟩ := World.cells?_some h1
      refine ⟨cs', by rw [hcl, hsz], hk, fun i u hiu => ?_⟩
      have hi : i < P.cellsOf e := by rw [← hcl]; exact (List.getElem?_eq_some_iff.1 hiu).1
      rw [← hsz, ← Go.Deep.add_add, hcc i hi]
      exact hiu
    · obtain ⟨i, hi⟩ := List.getElem?_of_mem hx'
      exact (hxs i x hi).choose_spec.2.2
theorem one_of {P : Program} {fs : Array Field} (hone : oneCellFields P fs = true) {j : Nat} {f : Field} (h : fs.toList[j]? = some f) : f.offset = j ∧ P.cellsOf f.type = 1 := hone_of hone j f (by simpa using h)
theorem opens_arg {P : Program} {t : TypeId} {α : Type} {d : Kd α} {Wf : α → Prop} (ho : Opens P t d Wf) {H : Type} {enc : TypeId × Value → H} {w : World} {base : Nat} {spare : Nat → Bool} {held : Bool} {v : Value} {dt : DataW H} {p : List MemPlace}
    (h : DataW.Trod enc P w base spare held t v dt p) {ts : List TypeId} {ds : List (DataW H)} {j : Nat} (hsz : (DataW.weightsEach P ts ds).all (· ≤ reachBytes) = true) (ht : ts[j]? = some t) (hd : ds[j]? = some dt) : ∃ x, d.K w x v.cells.toList ∧ Wf x := by
  obtain ⟨n, hn⟩ := h
  refine ho.opens hn (fun m hm => ?_)
  have := List.all_eq_true.1 hsz m (DataW.weights_mem_each ht hd m hm)
  simpa using this
end Go.Proofs.Ytbncfhmfohpfbaa.Rd
end
