/- DictRead: texts of this seat in one (wip/merge.py): Hw, X45, X60, X18, X47, X48, X23, X49, X50, X51, X52. -/
import Derived.Test.YtpibhiacmceekaaGDictRead0
import Derived.Test.YtpibhiacmceekaaGDictRead1
section
namespace Go.Proofs.Ytpibhiacmceekaa.X
open Go.RowKit Go.Proofs.YtpibhiacmceekaaW.PrintWords Go.Proofs.YtpibhiacmceekaaW.PrintLast Go.Proofs.YtpibhiacmceekaaW.PrintMore
set_option linter.unusedVariables false
set_option linter.unusedSimpArgs false
theorem own_lower {w : World} {base base' n : Nat} {e : TypeId} {size : Nat} {v : Value} {xs : List Value} (h : w.ownsRow base e size v n xs) (hb : base' ≤ base) : w.ownsRow base' e size v n xs := by
  obtain ⟨h1, h2⟩ := h
  refine ⟨h1, ?_⟩
  rcases h2 with h2 | ⟨g, cap, cur, rfl, hg, r⟩
  · exact .inl h2
  · exact .inr ⟨g, cap, cur, rfl, Nat.le_trans hb hg, r⟩
theorem own_R {w : World} {base : Nat} {v : Value} {l : List Int} (h : w.ownsRow base 3 1 v l.length (nums .i64 l)) : Kd.R (Kd.int .i64) 3 w base (fun _ => True) v l :=
  Kd.R_of_own (enc := Value.int .i64) (h1 := fun _ => rfl) h (fun _ _ => trivial)
set_option maxRecDepth 100000 in
set_option maxHeartbeats 2000000 in
theorem hy_part (k : Nat) (A : Option Addr) (c : Nat) (b : List Int) (W count : Int) (r : Int) (l' : List Int) (a' : Int) (w : World) (hC : Kd.C (Kd.int .u8) w A b.length b) (hc : b.length ≤ c) (h : hyF k b W count = some (r, l', a')) :
    Calls Try.prog 32 #[.slice A b.length c, .int .i64 W, .int .i64 count] w fun e w' => ∃ v0_ : Value, e = .returned (.tuple #[v0_, .int .i64 a', .int .i64 r]) ∧ Kd.R (Kd.int .i64) 3 w' w.heap.size (fun _ => True) v0_ l' ∧ Below w.heap.size w w' := by
  have HA := Aside0.mk (hy_all k A c b W count r l' a' w hC hc h)
  clear hC h
  go_enter Try.func32, Try.ntmps32
  go_wp2_with fail
  refine HA.out.mono ?_
  rintro e W1 ⟨lv, Ar, m, cr, rfl, ho, hb⟩
  obtain ⟨Al, cl, rfl⟩ := own_form ho
  have HO := Aside0.mk ho
  have HB := Aside0.mk hb
  clear ho hb HA
  go_wp2
  go_quiet (fail)
  go_wp2
  go_ret3
  exact ⟨_, rfl, by (with_reducible repeat (first | apply Kd.R_alloc | apply Kd.R_drewN | apply Kd.R_drew)); exact own_R HO.out, by repeat (first | (with_reducible first | exact HB.out | apply below_alloc | apply pw_below_drewN | apply below_drew1) | exact HB.out)⟩
set_option maxRecDepth 100000 in
set_option maxHeartbeats 2000000 in
theorem hy_whole (k : Nat) (A : Option Addr) (c : Nat) (b : List Int) (W count : Int) (r : Int) (l' : List Int) (a' : Int) (w : World) (hC : Kd.C (Kd.int .u8) w A b.length b) (hc : b.length ≤ c) (h : hyF k b W count = some (r, l', a')) :
    Calls Try.prog 52 #[.slice A b.length c, .int .i64 W, .int .i64 count] w (HyEnd w (if r = 0 then (if a' < (b.length : Int) then 7 else 0) else r) (if r = 0 then (if a' < (b.length : Int) then [] else l') else []) (if r = 0 then (if a' < (b.length : Int) then 0 else a') else 0)) := by
  have HA : ∀ W', Below w.heap.size w W' → Calls Try.prog 53 #[.slice A b.length c, .int .i64 W, .int .i64 count] W' (HyEnd W' r l' a') := fun W' hB => hy_all k A c b W count r l' a' W' (Kd.C_below hC hB) hc h
  have HZ := Aside0.mk (blk_new w (.cells #[.slice none 0 0, .slice none 0 0, .int .i64 0] 82))
  have HA := Aside0.mk HA
  clear hC h
  by_cases c1 : r = 0
  · subst c1
    rw [if_pos rfl, if_pos rfl, if_pos rfl]
    by_cases c2 : a' < (b.length : Int)
    · have d2 := decide_eq_true c2
      rw [if_pos c2, if_pos c2, if_pos c2]
      clear c2
      go_enter Try.func52, Try.ntmps52
      go_wp2_with fail
      refine (HA.out _ (below_alloc (Below.refl _ _) _)).mono ?_
      rintro e W1 ⟨lv, Ar, m, cr, rfl, ho, hb⟩
      obtain ⟨Al, cl, rfl⟩ := own_form ho
      have HG := Aside0.mk (show (W1.alloc (.cells #[.slice Al l'.length cl, .slice Ar m cr, .int .i64 a'] 82)).heap[w.heap.size]? = some (.cells #[.slice none 0 0, .slice none 0 0, .int .i64 0] 82 (0, 0)) from blk_alloc (blk_below HZ.out hb) _)
      have HR := Aside0.mk (show (W1.alloc (.cells #[.slice Al l'.length cl, .slice Ar m cr, .int .i64 a'] 82)).heap[W1.heap.size]? = some (.cells #[.slice Al l'.length cl, .slice Ar m cr, .int .i64 a'] 82 (0, 0)) from blk_new _ _)
      have HO := Aside0.mk (own_lower ho (show w.heap.size ≤ (w.alloc (.cells #[.slice none 0 0, .slice none 0 0, .int .i64 0] 82)).heap.size by simp))
      have HB := Aside0.mk ((below_alloc (Below.refl w.heap.size w) (.cells #[.slice none 0 0, .slice none 0 0, .int .i64 0] 82)).trans (hb.mono (by simp)))
      clear ho hb HA
      go_wp2_with (first | (refine wpList_store_row rfl 82 (.tmp 6) (.tmp 28) rfl w.heap.size #[.slice none 0 0, .slice none 0 0, .int .i64 0] rfl rfl 82 #[.slice none 0 0, .slice none 0 0, .int .i64 0] HG.out (by kernel_rfl) rfl (by simp [Value.oneCell']) ?_))
      refine bodyPost_ret (results_ct rfl _ _ w.heap.size 82 #[.slice none 0 0, .slice none 0 0, .int .i64 0] (0, 0) _ rfl (setRow_heap _ _ _ _ _ _ HG.out) Try.underlying82 rfl (by kernel_rfl)) rfl ?_
      exact ⟨_, _, _, _, rfl, World.ownsRow_nil _ _ _ _, below_setRow (below_alloc HB.out _) (Nat.le_refl _) _⟩
    · have d2 := decide_eq_false c2
      rw [if_neg c2, if_neg c2, if_neg c2]
      clear c2
      go_enter Try.func52, Try.ntmps52
      go_wp2_with fail
      refine (HA.out _ (below_alloc (Below.refl _ _) _)).mono ?_
      rintro e W1 ⟨lv, Ar, m, cr, rfl, ho, hb⟩
      obtain ⟨Al, cl, rfl⟩ := own_form ho
      have HG := Aside0.mk (show (W1.alloc (.cells #[.slice Al l'.length cl, .slice Ar m cr, .int .i64 a'] 82)).heap[w.heap.size]? = some (.cells #[.slice none 0 0, .slice none 0 0, .int .i64 0] 82 (0, 0)) from blk_alloc (blk_below HZ.out hb) _)
      have HR := Aside0.mk (show (W1.alloc (.cells #[.slice Al l'.length cl, .slice Ar m cr, .int .i64 a'] 82)).heap[W1.heap.size]? = some (.cells #[.slice Al l'.length cl, .slice Ar m cr, .int .i64 a'] 82 (0, 0)) from blk_new _ _)
      have HO := Aside0.mk (own_lower ho (show w.heap.size ≤ (w.alloc (.cells #[.slice none 0 0, .slice none 0 0, .int .i64 0] 82)).heap.size by simp))
      have HB := Aside0.mk ((below_alloc (Below.refl w.heap.size w) (.cells #[.slice none 0 0, .slice none 0 0, .int .i64 0] 82)).trans (hb.mono (by simp)))
      clear ho hb HA
      go_wp2_with (first | (refine wpList_load_row rfl _ _ rfl W1.heap.size rfl 82 #[.slice Al l'.length cl, .slice Ar m cr, .int .i64 a'] (0, 0) _ HR.out Try.underlying82 rfl (by kernel_rfl) ?_) | (refine wpList_store_row rfl 82 (.tmp 6) (.tmp 29) rfl w.heap.size #[.slice Al l'.length cl, .slice Ar m cr, .int .i64 a'] rfl rfl 82 #[.slice none 0 0, .slice none 0 0, .int .i64 0] HG.out (by kernel_rfl) rfl (by simp [Value.oneCell']) ?_))
      have hg : (W1.alloc (.cells #[.slice Al l'.length cl, .slice Ar m cr, .int .i64 a'] 82)).grownBy ((W1.alloc (.cells #[.slice Al l'.length cl, .slice Ar m cr, .int .i64 a'] 82)).setRow w.heap.size #[.slice Al l'.length cl, .slice Ar m cr, .int .i64 a']) (some w.heap.size) := ⟨rfl, rfl, rfl, by simp, fun k hk hne => setRow_other _ _ _ _ (fun e => hne (by rw [e]))⟩
      refine bodyPost_ret (results_ct rfl _ _ w.heap.size 82 #[.slice Al l'.length cl, .slice Ar m cr, .int .i64 a'] (0, 0) _ rfl (setRow_heap _ _ _ _ _ _ HG.out) Try.underlying82 rfl (by kernel_rfl)) rfl ?_
      exact ⟨_, _, _, _, rfl, own_other (HO.out.alloc _) hg (.inr (fun e => own_ne (HO.out.alloc _) HG.out (by decide) e.symm)), below_setRow (below_alloc HB.out _) (Nat.le_refl _) _⟩
  · have d1 : (r != 0) = true := by simp [c1]
    rw [if_neg c1, if_neg c1, if_neg c1]
    clear c1
    · go_enter Try.func52, Try.ntmps52
      go_wp2_with fail
      refine (HA.out _ (below_alloc (Below.refl _ _) _)).mono ?_
      rintro e W1 ⟨lv, Ar, m, cr, rfl, ho, hb⟩
      obtain ⟨Al, cl, rfl⟩ := own_form ho
      have HG := Aside0.mk (show (W1.alloc (.cells #[.slice Al l'.length cl, .slice Ar m cr, .int .i64 a'] 82)).heap[w.heap.size]? = some (.cells #[.slice none 0 0, .slice none 0 0, .int .i64 0] 82 (0, 0)) from blk_alloc (blk_below HZ.out hb) _)
      have HR := Aside0.mk (show (W1.alloc (.cells #[.slice Al l'.length cl, .slice Ar m cr, .int .i64 a'] 82)).heap[W1.heap.size]? = some (.cells #[.slice Al l'.length cl, .slice Ar m cr, .int .i64 a'] 82 (0, 0)) from blk_new _ _)
      have HO := Aside0.mk (own_lower ho (show w.heap.size ≤ (w.alloc (.cells #[.slice none 0 0, .slice none 0 0, .int .i64 0] 82)).heap.size by simp))
      have HB := Aside0.mk ((below_alloc (Below.refl w.heap.size w) (.cells #[.slice none 0 0, .slice none 0 0, .int .i64 0] 82)).trans (hb.mono (by simp)))
      clear ho hb HA
      go_wp2_with (first | (refine wpList_store_row rfl 82 (.tmp 6) (.tmp 20) rfl w.heap.size #[.slice none 0 0, .slice none 0 0, .int .i64 0] rfl rfl 82 #[.slice none 0 0, .slice none 0 0, .int .i64 0] HG.out (by kernel_rfl) rfl (by simp [Value.oneCell']) ?_))
      refine bodyPost_ret (results_ct rfl _ _ w.heap.size 82 #[.slice none 0 0, .slice none 0 0, .int .i64 0] (0, 0) _ rfl (setRow_heap _ _ _ _ _ _ HG.out) Try.underlying82 rfl (by kernel_rfl)) rfl ?_
      exact ⟨_, _, _, _, rfl, World.ownsRow_nil _ _ _ _, below_setRow (below_alloc HB.out _) (Nat.le_refl _) _⟩
set_option maxRecDepth 100000 in
set_option maxHeartbeats 2000000 in
theorem hy_read (k : Nat) (A : Option Addr) (c : Nat) (b : List Int) (W count : Int) (r : Int) (l' : List Int) (a' : Int) (w : World) (hC : Kd.C (Kd.int .u8) w A b.length b) (hc : b.length ≤ c) (h : hyF k b W count = some (r, l', a')) :
    Calls Try.prog 31 #[.slice A b.length c, .int .i64 W, .int .i64 count] w fun e w' => ∃ v0_ : Value, e = .returned (.tuple #[v0_, .int .i64 (if r = 0 then (if a' < (b.length : Int) then 7 else 0) else r)]) ∧ Kd.R (Kd.int .i64) 3 w' w.heap.size (fun _ => True) v0_ (if r = 0 then (if a' < (b.length : Int) then [] else l') else []) ∧ Below w.heap.size w w' := by
  have HA := hy_whole k A c b W count r l' a' w hC hc h
  obtain ⟨r2, hr2⟩ : ∃ x, x = (if r = 0 then (if a' < (b.length : Int) then 7 else 0) else r) := ⟨_, rfl⟩
  obtain ⟨l2, hl2⟩ : ∃ x, x = (if r = 0 then (if a' < (b.length : Int) then [] else l') else []) := ⟨_, rfl⟩
  obtain ⟨a2, ha2⟩ : ∃ x, x = (if r = 0 then (if a' < (b.length : Int) then 0 else a') else 0) := ⟨_, rfl⟩
  rw [← hr2, ← hl2, ← ha2] at HA
  rw [← hr2, ← hl2]
  have HA := Aside0.mk HA
  clear hC h hr2 hl2 ha2
  go_enter Try.func31, Try.ntmps31
  go_wp2_with fail
  refine HA.out.mono ?_
  rintro e W1 ⟨lv, Ar, m, cr, rfl, ho, hb⟩
  obtain ⟨Al, cl, rfl⟩ := own_form ho
  have HO := Aside0.mk ho
  have HB := Aside0.mk hb
  clear ho hb HA
  go_wp2
  go_ret2
  exact ⟨_, rfl, by (with_reducible repeat (first | apply Kd.R_alloc | apply Kd.R_drewN | apply Kd.R_drew)); exact own_R HO.out, by repeat (first | (with_reducible first | exact HB.out | apply below_alloc | apply pw_below_drewN | apply below_drew1) | exact HB.out)⟩
theorem hyAll_mono : ∀ k b W count l a, LeO (hyAll k b W count l a) (hyAll (k + 1) b W count l a)
  | 0, _, _, _, _, _ => LeO.none _
  | k + 1, b, W, count, l, a => by
    rw [hyAll, hyAll]
    refine LeO.ite (LeO.bind (bits_ReadVarint.mono _ _ _) (fun v => LeO.ite (LeO.ite (LeO.ite (LeO.bind (LeO.ite ?_ ?_) (fun p => LeO.ite (LeO.ite (hyAll_mono k _ _ _ _ _) (LeO.refl _)) (LeO.refl _))) (LeO.refl _)) (LeO.refl _)) (LeO.refl _))) (LeO.refl _)
    · unfold hyRep
      exact LeO.ite (LeO.ite (LeO.bind (bits_ReadLittle.mono _ _ _ _) (fun _ => LeO.bind (bits_Width.mono _ _) (fun _ => LeO.refl _))) (LeO.refl _)) (LeO.refl _)
    · unfold hyPack
      exact LeO.ite (LeO.ite (LeO.bind (bits_Unpack.mono _ _ _ _) (fun _ => LeO.refl _)) (LeO.refl _)) (LeO.refl _)
theorem hyF_mono (k : Nat) (b : List Int) (W count : Int) : LeO (hyF k b W count) (hyF (k + 1) b W count) := by
  unfold hyF
  exact LeO.ite (LeO.refl _) (LeO.ite (LeO.refl _) (LeO.ite (LeO.refl _) (LeO.ite (LeO.refl _) (LeO.ite (LeO.refl _) (hyAll_mono _ _ _ _ _ _)))))
end Go.Proofs.Ytpibhiacmceekaa.X
end

section
namespace Go.Proofs.Ytpibhiacmceekaa.X
open Go.RowKit Go.Proofs.YtpibhiacmceekaaW.PrintWords Go.Proofs.YtpibhiacmceekaaW.PrintLast Go.Proofs.YtpibhiacmceekaaW.PrintMore
attribute [local go_sem] max2_int min2_int max_two min_two max_three min_three max_four min_four
set_option linter.unusedVariables false
set_option linter.unusedSimpArgs false
def hybrid_Read.f (k : Nat) (l0 : List Int) (a1 a2 : Int) : Option (List Int × Int) := (hyF k l0 a1 a2).bind fun p => some (if p.1 = 0 then (if p.2.2 < (l0.length : Int) then [] else p.2.1) else [], if p.1 = 0 then (if p.2.2 < (l0.length : Int) then 7 else 0) else p.1)
theorem hybrid_Read.mono : ∀ l0 a1 a2 k, LeO (hybrid_Read.f k l0 a1 a2) (hybrid_Read.f (k + 1) l0 a1 a2) := by
 intro l0 a1 a2 k
 unfold hybrid_Read.f
 exact LeO.bind (hyF_mono _ _ _ _) (fun _ => LeO.refl _)
theorem hybrid_Read.calls (k : Nat) (A0 : Option Addr) (c0 : Nat) (l0 : List Int) (a1 : Int) (a2 : Int) (r1 : List Int) (r2 : Int) (w : World) (hr0 : Kd.C (Kd.int .u8) w A0 l0.length l0) (hc0 : l0.length ≤ c0) (h : hybrid_Read.f k l0 a1 a2 = some (r1, r2)) :
  Calls Try.prog 31 #[.slice A0 l0.length c0, .int .i64 a1, .int .i64 a2] w fun e w' => ∃ v0_ : Value, e = .returned (.tuple #[v0_, .int .i64 r2]) ∧ Kd.R (Kd.int .i64) 3 w' w.heap.size (fun _ => True) v0_ r1 ∧ Below w.heap.size w w' := by
 unfold hybrid_Read.f at h
 obtain ⟨⟨r, l, a⟩, hp, h⟩ := Option.bind_eq_some_iff.1 h
 obtain ⟨rfl, rfl⟩ : (if r = 0 then (if a < (l0.length : Int) then [] else l) else []) = r1 ∧ (if r = 0 then (if a < (l0.length : Int) then 7 else 0) else r) = r2 := by simpa using h
 exact hy_read k A0 c0 l0 a1 a2 r l a w hr0 hc0 hp
end Go.Proofs.Ytpibhiacmceekaa.X
end

section
namespace Go.Proofs.Ytpibhiacmceekaa.X
open Go.RowKit Go.Proofs.YtpibhiacmceekaaW.PrintWords Go.Proofs.YtpibhiacmceekaaW.PrintLast Go.Proofs.YtpibhiacmceekaaW.PrintMore
attribute [local go_sem] max2_int min2_int max_two min_two max_three min_three max_four min_four
set_option linter.unusedVariables false
set_option linter.unusedSimpArgs false
def dict_Read.f (k : Nat) (l0 : List Int) (a1 a2 : Int) : Option (List Int × Int) :=
 if a1 < 0 then some ([], 2) else if a2 < 0 then some ([], 2) else if 65536 < a1 then some ([], 3) else if 65536 < a2 then some ([], 3) else if 1048576 < (l0.length : Int) then some ([], 3) else
  if l0.length = 0 then some ([], 6) else if 32 < rd l0 0 then some ([], 120) else if rd l0 0 < 0 then none else
   (hybrid_Read.f k (l0.drop 1) (rd l0 0) a2).bind fun p => if p.2 = 0 then (if p.1.any (fun x => !decide (x < a1)) = true then some ([], 4) else some (p.1, 0)) else some ([], p.2)
theorem dict_Read.mono : ∀ l0 a1 a2 k, LeO (dict_Read.f k l0 a1 a2) (dict_Read.f (k + 1) l0 a1 a2) := by
 intro l0 a1 a2 k
 unfold dict_Read.f
 exact LeO.ite (LeO.refl _) (LeO.ite (LeO.refl _) (LeO.ite (LeO.refl _) (LeO.ite (LeO.refl _) (LeO.ite (LeO.refl _) (LeO.ite (LeO.refl _) (LeO.ite (LeO.refl _) (LeO.ite (LeO.refl _) (LeO.bind (hybrid_Read.mono _ _ _ _) (fun _ => LeO.refl _)))))))))
def DrEnd (w : World) (r1 : List Int) (r2 : Int) (e : Ending) (w' : World) : Prop := ∃ v0_ : Value, e = .returned (.tuple #[v0_, .int .i64 r2]) ∧ Kd.R (Kd.int .i64) 3 w' w.heap.size (fun _ => True) v0_ r1 ∧ Below w.heap.size w w'
theorem dr_end_nil {w w' : World} {r2 : Int} (h : Below w.heap.size w w') : DrEnd w [] r2 (.returned (.tuple #[.slice none 0 0, .int .i64 r2])) w' := ⟨_, rfl, Kd.R_nil _ _ _ _ _, h⟩
theorem dr_drop {l : List Int} {i : Nat} (h : i < l.length) : l.drop i = l.getD i 0 :: l.drop (i + 1) := by
 rw [List.drop_eq_getElem_cons h, List.getD_eq_getElem?_getD, List.getElem?_eq_getElem h]; rfl
set_option maxHeartbeats 400000 in
theorem dr_there (w : World) (g0 : Nat) (n x : Int) (hn : w.cell? ⟨g0, 0, none⟩ = some (.int .i64 n)) :
  Calls Try.prog 54 #[.int .i64 x, .pointer (some ⟨g0, 0, none⟩)] w fun e w' => e = .returned (.bool (decide (x < n))) ∧ Drawn0 w w' := by
 go_enter Try.func54, Try.ntmps54
 go_wp2
 go_ret
 exact ⟨rfl, Drawn0.refl _⟩
set_option maxHeartbeats 4000000 in
set_option maxRecDepth 100000 in
theorem dr_refused (A0 : Option Addr) (c0 : Nat) (l0 : List Int) (a1 a2 r2 : Int) (w : World) (hr0 : Kd.C (Kd.int .u8) w A0 l0.length l0)
  (h : (a1 < 0 ∧ r2 = 2) ∨ (0 ≤ a1 ∧ a2 < 0 ∧ r2 = 2) ∨ (0 ≤ a1 ∧ 0 ≤ a2 ∧ 65536 < a1 ∧ r2 = 3) ∨ (0 ≤ a1 ∧ 0 ≤ a2 ∧ a1 ≤ 65536 ∧ 65536 < a2 ∧ r2 = 3) ∨ (0 ≤ a1 ∧ 0 ≤ a2 ∧ a1 ≤ 65536 ∧ a2 ≤ 65536 ∧ 1048576 < (l0.length : Int) ∧ r2 = 3) ∨
   (0 ≤ a1 ∧ 0 ≤ a2 ∧ a1 ≤ 65536 ∧ a2 ≤ 65536 ∧ (l0.length : Int) ≤ 1048576 ∧ 0 < l0.length ∧ 32 < rd l0 0 ∧ r2 = 120)) :
  Calls Try.prog 33 #[.slice A0 l0.length c0, .int .i64 a1, .int .i64 a2] w (DrEnd w [] r2) := by
 rcases h with ⟨h, rfl⟩ | ⟨h1, h, rfl⟩ | ⟨h1, h2, h, rfl⟩ | ⟨h1, h2, h3, h, rfl⟩ | ⟨h1, h2, h3, h4, h, rfl⟩ | ⟨h1, h2, h3, h4, h5, h6, h, rfl⟩
 ·clear hr0
  have d := decide_eq_true h
  clear h
  go_enter Try.func33, Try.ntmps33
  go_wp2
  go_step3
  go_wp2
  rw [Exit.noGoto_ret]
  go_ret2
  exact dr_end_nil (below_alloc (Below.refl _ _) _)
 ·clear hr0
  have d := decide_eq_true h
  have d1 := decide_eq_false (show ¬ a1 < 0 by omega)
  clear h h1
  go_enter Try.func33, Try.ntmps33
  go_wp2
  go_step3
  go_wp2
  rw [Exit.noGoto_ret]
  go_ret2
  exact dr_end_nil (below_alloc (Below.refl _ _) _)
 ·clear hr0
  have d := decide_eq_true h
  have d1 := decide_eq_false (show ¬ a1 < 0 by omega)
  have d2 := decide_eq_false (show ¬ a2 < 0 by omega)
  clear h h1 h2
  go_enter Try.func33, Try.ntmps33
  go_wp2
  go_step3
  go_wp2
  rw [Exit.noGoto_ret]
  go_ret2
  exact dr_end_nil (below_alloc (Below.refl _ _) _)
 ·clear hr0
  have d := decide_eq_true h
  have d1 := decide_eq_false (show ¬ a1 < 0 by omega)
  have d2 := decide_eq_false (show ¬ a2 < 0 by omega)
  have d3 := decide_eq_false (show ¬ 65536 < a1 by omega)
  clear h h1 h2 h3
  go_enter Try.func33, Try.ntmps33
  go_wp2
  go_step3
  go_wp2
  rw [Exit.noGoto_ret]
  go_ret2
  exact dr_end_nil (below_alloc (Below.refl _ _) _)
 ·clear hr0
  have d := decide_eq_true h
  have d1 := decide_eq_false (show ¬ a1 < 0 by omega)
  have d2 := decide_eq_false (show ¬ a2 < 0 by omega)
  have d3 := decide_eq_false (show ¬ 65536 < a1 by omega)
  have d4 := decide_eq_false (show ¬ 65536 < a2 by omega)
  clear h h1 h2 h3 h4
  go_enter Try.func33, Try.ntmps33
  go_wp2
  go_step3
  go_wp2
  rw [Exit.noGoto_ret]
  go_ret2
  exact dr_end_nil (below_alloc (Below.refl _ _) _)
 ·obtain ⟨ad, rfl, hx⟩ := c_at (Kd.C_below hr0 (below_alloc (Below.refl w.heap.size w) (.cells #[.int .i64 a1] 3))) 0 (by omega) (by omega)
  have d := decide_eq_true h
  have d1 := decide_eq_false (show ¬ a1 < 0 by omega)
  have d2 := decide_eq_false (show ¬ a2 < 0 by omega)
  have d3 := decide_eq_false (show ¬ 65536 < a1 by omega)
  have d4 := decide_eq_false (show ¬ 65536 < a2 by omega)
  have d5 := decide_eq_false (show ¬ 1048576 < (l0.length : Int) by omega)
  have d6 : ((l0.length : Int) == 0) = false := by rw [beq_eq_false_iff_ne]; omega
  have d7 : (l0.length == 0) = false := by rw [beq_eq_false_iff_ne]; omega
  rw [show ((0 : Int)).toNat = 0 from rfl, show ad.add 0 = ad from if_pos rfl] at hx
  obtain ⟨x, hxx⟩ : ∃ x, x = rd l0 0 := ⟨_, rfl⟩
  rw [← hxx] at hx d
  clear h h1 h2 h3 h4 h5 hr0 hxx
  go_enter Try.func33, Try.ntmps33
  go_wp2
  go_step3
  go_wp2
  rw [Exit.noGoto_ret]
  go_ret2
  exact dr_end_nil (below_alloc (Below.refl _ _) _)
theorem dr_slice (A : Option Addr) (c len : Nat) (h1 : 1 ≤ len) (h2 : len ≤ c) (W : World) :
  (Instr.slice 37 (.slice A len c) (some (.int .i64 1)) none none).run Try.prog W = .ok (.slice (if c = 1 then A else A.map (·.add (1 * 1))) (len - 1) (c - 1)) W := by
 have hs : (Try.prog.info? 5).map (·.size) = some 1 := by kernel_rfl
 cases hq : Try.prog.info? 5 with
 | none => simp [hq] at hs
 | some i =>
  have hs1 : i.size = 1 := by simpa [hq] using hs
  unfold Instr.slice
  simp only [Sem.run_bind, run_underlying Try.underlying37, Result.andThen_ok]
  simp only [Instr.sliceBounds, Sem.run_bind, Sem.run_pure, Result.andThen_ok]
  have r2 := run_sliceBound (P := Try.prog) W .i64 1 len .sliceB (by omega) (by omega)
  simp [r2, sizeOf, typeInfo, hq, hs1, Sem.run_bind]
set_option maxHeartbeats 4000000 in
set_option maxRecDepth 100000 in
theorem dr_main (k : Nat) (A0 : Option Addr) (c0 : Nat) (l0 : List Int) (a1 : Int) (a2 : Int) (p1 : List Int) (p2 : Int) (r1 : List Int) (r2 : Int) (w : World) (hr0 : Kd.C (Kd.int .u8) w A0 l0.length l0) (hc0 : l0.length ≤ c0) (h1 : 0 ≤ a1) (h2 : 0 ≤ a2) (h3 : a1 ≤ 65536) (h4 : a2 ≤ 65536) (h5 : (l0.length : Int) ≤ 1048576) (h6 : 0 < l0.length) (h7 : rd l0 0 ≤ 32) (h8 : 0 ≤ rd l0 0)
  (hp : hybrid_Read.f k (l0.drop 1) (rd l0 0) a2 = some (p1, p2)) (h : (if p2 = 0 then (if p1.any (fun x => !decide (x < a1)) = true then some ([], 4) else some (p1, 0)) else some ([], p2)) = some (r1, r2)) :
  Calls Try.prog 33 #[.slice A0 l0.length c0, .int .i64 a1, .int .i64 a2] w (DrEnd w r1 r2) := by
 have hB1 := below_alloc (Below.refl w.heap.size w) (.cells #[.int .i64 a1] 3)
 obtain ⟨ad, rfl, hx⟩ := c_at (Kd.C_below hr0 hB1) 0 (by omega) (by omega)
 rw [show ((0 : Int)).toNat = 0 from rfl, show ad.add 0 = ad from if_pos rfl] at hx
 have d1 := decide_eq_false (show ¬ a1 < 0 by omega)
 have d2 := decide_eq_false (show ¬ a2 < 0 by omega)
 have d3 := decide_eq_false (show ¬ 65536 < a1 by omega)
 have d4 := decide_eq_false (show ¬ 65536 < a2 by omega)
 have d5 := decide_eq_false (show ¬ 1048576 < (l0.length : Int) by omega)
 have d6 : ((l0.length : Int) == 0) = false := by rw [beq_eq_false_iff_ne]; omega
 have d7 : (l0.length == 0) = false := by rw [beq_eq_false_iff_ne]; omega
 obtain ⟨x, hxx⟩ : ∃ x, x = rd l0 0 := ⟨_, rfl⟩
 rw [← hxx] at hx h7 h8 hp
 have g1 : IntKind.i64.wrap x = x := IntWalk.i64_in _ (by omega)
 have d8 := decide_eq_false (show ¬ 32 < x by omega)
 obtain ⟨V, hV⟩ : ∃ V, V = Value.slice (if c0 = 1 then some ad else (some ad).map (·.add (1 * 1))) (l0.length - 1) (c0 - 1) := ⟨_, rfl⟩
 have hsl := fun W' => dr_slice (some ad) c0 l0.length (by omega) hc0 W'
 have HU : ∀ W', Below w.heap.size w W' → Calls Try.prog 31 #[V, .int .i64 x, .int .i64 a2] W' fun e w' => ∃ v0_ : Value, e = .returned (.tuple #[v0_, .int .i64 p2]) ∧ Kd.R (Kd.int .i64) 3 w' W'.heap.size (fun _ => True) v0_ p1 ∧ Below W'.heap.size W' w' := by
  intro W' hB'
  have hm := Kd.C_drop (m := 1) (c := c0) (Kd.C_below hr0 hB') (by omega) hc0
  have hlen : (l0.drop 1).length = l0.length - 1 := List.length_drop
  have := hybrid_Read.calls k _ (c0 - 1) (l0.drop 1) x a2 p1 p2 W' hm (by rw [hlen]; omega) hp
  rw [hlen] at this
  rw [hV]; exact this
 rw [← hV] at hsl
 have HU := Aside0.mk HU
 have HB1 := Aside0.mk hB1
 have H := Aside0.mk h
 have hcell : (w.alloc (.cells #[.int .i64 a1] 3)).cell? ⟨w.heap.size, 0, none⟩ = some (.int .i64 a1) := by simp
 have HC := Aside0.mk hcell
 have hmf : ∀ (fn : Fn) (first cap : Array Value) (w : World), (Instr.makeFunc fn first cap).run Try.prog w = .ok (.func fn first cap) w := fun _ _ _ _ => rfl
 clear h hp hV hr0 hB1 hxx hcell h7
 go_enter Try.func33, Try.ntmps33
 go_wp2
 go_step3
 go_wp2_with fail
 generalize hW1 : w.alloc (.cells #[.int .i64 a1] 3) = W1 at *
 have HW1 := Aside0.mk (show W1.heap.size = w.heap.size + 1 by rw [← hW1, World.size_alloc])
 clear hW1
 go_region_with (go_at_call 31; refine (HU.out _ (by repeat (with_reducible first | exact HB1.out | apply pw_below_drewN | apply below_drew1))).mono ?_; rintro e W3 ⟨v0, rfl, hR, hB⟩)
 all_goals
  have HB3 := Aside0.mk ((below_drew1 HB1.out).trans (hB.mono (below_drew1 HB1.out).size))
  have HR3 := Aside0.mk (Kd.R_lower hR (below_drew1 HB1.out).size)
  obtain ⟨Al, cl, rfl⟩ := Kd.R_slice hR
  have HC3 := Aside0.mk (Kd.R_reads' hR).2.2
  have hpl : p1.length ≤ 9223372036854775807 := (Kd.R_reads' hR).2.2.2.1
  have hcell3 : W3.cell? ⟨w.heap.size, 0, none⟩ = some (.int .i64 a1) := (hB.cell (p := ⟨w.heap.size, 0, none⟩) (by show w.heap.size < W1.heap.size; rw [HW1.out]; omega)).trans HC.out
  clear hR hB HU hsl hx HC
  by_cases c1 : p2 = 0
  ·subst c1
   go_wp2_with fail
   go_step3
   go_wp2_with fail
   go_loopw [11, 59] (fun v11 v59 w' => ∃ j : Nat, v11 = .bool false ∧ v59 = .int .i64 j ∧ j ≤ p1.length ∧ Aside0 (p1.any (fun x => !decide (x < a1)) = (p1.drop j).any (fun x => !decide (x < a1))) ∧ Aside0 (∃ nd, w' = W3.drewN nd)) (fun _ v59 _ => p1.length - (intOf v59).toNat)
   case atStart => exact ⟨0, rfl, rfl, Nat.zero_le _, ⟨rfl⟩, ⟨0, rfl⟩⟩
   case round =>
    obtain ⟨j, rfl, rfl, hj, HA, HD⟩ := hrel
    obtain ⟨nd, rfl⟩ := HD.out
    by_cases hlt : j < p1.length
    ·have hA := HA.out
     rw [dr_drop hlt, List.any_cons] at hA
     obtain ⟨ad1, rfl, hcell1⟩ := c_at (Kd.C_drewN HC3.out nd) (j : Int) (by omega) (by omega)
     have e : rd p1 (j : Int) = p1.getD j 0 := rfl
     rw [e, show ((j : Int)).toNat = j from rfl] at hcell1
     obtain ⟨y, hy⟩ : ∃ y, y = p1.getD j 0 := ⟨_, rfl⟩
     rw [← hy] at hcell1 hA
     clear e hy HA
     have HT := Aside0.mk (dr_there (W3.drewN nd) w.heap.size a1 y hcell3)
     by_cases b1 : y < a1
     ·have hb1 := decide_eq_true b1
      rw [hb1] at HT
      have HA' := Aside0.mk (show p1.any (fun x => !decide (x < a1)) = (p1.drop (j + 1)).any (fun x => !decide (x < a1)) by rw [hA, hb1]; rfl)
      clear hA b1 hb1
      go_wp2_with fail
      refine HT.out.mono ?_
      rintro e W4 ⟨rfl, ⟨nd2, rfl⟩⟩
      go_wp2
      go_roundw
      case rel => exact ⟨j + 1, rfl, by go_num, by omega, HA', ⟨nd + nd2, rfl⟩⟩
      case measure => simp [intOf]; omega
     ·have hb1 := decide_eq_false b1
      rw [hb1] at HT
      have h := H.out
      rw [if_pos trivial, if_pos (by rw [hA, hb1]; rfl)] at h
      have hr := Aside0.mk (show [] = r1 ∧ 4 = r2 by simpa using h)
      clear h hA b1 hb1
      go_wp2_with fail
      refine HT.out.mono ?_
      rintro e W4 ⟨rfl, ⟨nd2, rfl⟩⟩
      go_wp2
      rw [Exit.noGoto_ret]
      go_ret2
      obtain ⟨rfl, rfl⟩ := hr.out
      exact dr_end_nil (pw_below_drewN HB3.out (nd + nd2))
    ·have hA := HA.out
     rw [List.drop_eq_nil_of_le (by omega)] at hA
     have h := H.out
     rw [if_pos trivial, if_neg (by rw [hA]; simp)] at h
     have hr := Aside0.mk (show p1 = r1 ∧ 0 = r2 by simpa using h)
     clear hA HA h
     go_wp2
     rw [Exit.noGoto_ret]
     go_ret2
     obtain ⟨rfl, rfl⟩ := hr.out
     exact ⟨_, rfl, Kd.R_drewN HR3.out nd, pw_below_drewN HB3.out nd⟩
  ·have d : (p2 != 0) = true := by simp [c1]
   have h := H.out
   rw [if_neg c1] at h
   have hr := Aside0.mk (show [] = r1 ∧ p2 = r2 by simpa using h)
   clear h c1
   go_wp2
   rw [Exit.noGoto_ret]
   go_ret2
   obtain ⟨rfl, rfl⟩ := hr.out
   exact dr_end_nil HB3.out
theorem dr_empty (A0 : Option Addr) (c0 : Nat) (l0 : List Int) (a1 a2 : Int) (w : World) (h1 : 0 ≤ a1) (h2 : 0 ≤ a2) (h3 : a1 ≤ 65536) (h4 : a2 ≤ 65536) (h : l0.length = 0) :
  Calls Try.prog 33 #[.slice A0 l0.length c0, .int .i64 a1, .int .i64 a2] w (DrEnd w [] 6) := by
 have d1 := decide_eq_false (show ¬ a1 < 0 by omega)
 have d2 := decide_eq_false (show ¬ a2 < 0 by omega)
 have d3 := decide_eq_false (show ¬ 65536 < a1 by omega)
 have d4 := decide_eq_false (show ¬ 65536 < a2 by omega)
 rw [h]
 clear h1 h2 h3 h4 h
 go_enter Try.func33, Try.ntmps33
 go_wp2
 go_step3
 go_wp2
 rw [Exit.noGoto_ret]
 go_ret2
 exact dr_end_nil (below_alloc (Below.refl _ _) _)
theorem dict_Read.calls (k : Nat) (A0 : Option Addr) (c0 : Nat) (l0 : List Int) (a1 : Int) (a2 : Int) (r1 : List Int) (r2 : Int) (w : World) (hr0 : Kd.C (Kd.int .u8) w A0 l0.length l0) (hc0 : l0.length ≤ c0) (h : dict_Read.f k l0 a1 a2 = some (r1, r2)) :
  Calls Try.prog 33 #[.slice A0 l0.length c0, .int .i64 a1, .int .i64 a2] w fun e w' => ∃ v0_ : Value, e = .returned (.tuple #[v0_, .int .i64 r2]) ∧ Kd.R (Kd.int .i64) 3 w' w.heap.size (fun _ => True) v0_ r1 ∧ Below w.heap.size w w' := by
 unfold dict_Read.f at h
 by_cases b1 : a1 < 0
 ·rw [if_pos b1] at h
  obtain ⟨rfl, rfl⟩ : [] = r1 ∧ 2 = r2 := by simpa using h
  exact dr_refused A0 c0 l0 a1 a2 2 w hr0 (.inl ⟨b1, rfl⟩)
 rw [if_neg b1] at h
 by_cases b2 : a2 < 0
 ·rw [if_pos b2] at h
  obtain ⟨rfl, rfl⟩ : [] = r1 ∧ 2 = r2 := by simpa using h
  exact dr_refused A0 c0 l0 a1 a2 2 w hr0 (.inr (.inl ⟨by omega, b2, rfl⟩))
 rw [if_neg b2] at h
 by_cases b3 : 65536 < a1
 ·rw [if_pos b3] at h
  obtain ⟨rfl, rfl⟩ : [] = r1 ∧ 3 = r2 := by simpa using h
  exact dr_refused A0 c0 l0 a1 a2 3 w hr0 (.inr (.inr (.inl ⟨by omega, by omega, b3, rfl⟩)))
 rw [if_neg b3] at h
 by_cases b4 : 65536 < a2
 ·rw [if_pos b4] at h
  obtain ⟨rfl, rfl⟩ : [] = r1 ∧ 3 = r2 := by simpa using h
  exact dr_refused A0 c0 l0 a1 a2 3 w hr0 (.inr (.inr (.inr (.inl ⟨by omega, by omega, by omega, b4, rfl⟩))))
 rw [if_neg b4] at h
 by_cases b5 : 1048576 < (l0.length : Int)
 ·rw [if_pos b5] at h
  obtain ⟨rfl, rfl⟩ : [] = r1 ∧ 3 = r2 := by simpa using h
  exact dr_refused A0 c0 l0 a1 a2 3 w hr0 (.inr (.inr (.inr (.inr (.inl ⟨by omega, by omega, by omega, by omega, b5, rfl⟩)))))
 rw [if_neg b5] at h
 by_cases b6 : l0.length = 0
 ·rw [if_pos b6] at h
  obtain ⟨rfl, rfl⟩ : [] = r1 ∧ 6 = r2 := by simpa using h
  exact dr_empty A0 c0 l0 a1 a2 w (by omega) (by omega) (by omega) (by omega) b6
 rw [if_neg b6] at h
 by_cases b7 : 32 < rd l0 0
 ·rw [if_pos b7] at h
  obtain ⟨rfl, rfl⟩ : [] = r1 ∧ 120 = r2 := by simpa using h
  exact dr_refused A0 c0 l0 a1 a2 120 w hr0 (.inr (.inr (.inr (.inr (.inr ⟨by omega, by omega, by omega, by omega, by omega, by omega, b7, rfl⟩)))))
 rw [if_neg b7] at h
 by_cases b8 : rd l0 0 < 0
 ·rw [if_pos b8] at h
  exact absurd h (by simp)
 rw [if_neg b8] at h
 obtain ⟨⟨p1, p2⟩, hp, h⟩ := Option.bind_eq_some_iff.1 h
 exact dr_main k A0 c0 l0 a1 a2 p1 p2 r1 r2 w hr0 hc0 (by omega) (by omega) (by omega) (by omega) (by omega) (by omega) (by omega) (by omega) hp h
end Go.Proofs.Ytpibhiacmceekaa.X
end

section
namespace Go.Proofs.Ytpibhiacmceekaa.X
open Go.RowKit Go.Proofs.YtpibhiacmceekaaW.PrintWords Go.Proofs.YtpibhiacmceekaaW.PrintLast Go.Proofs.YtpibhiacmceekaaW.PrintMore
attribute [local go_sem] max2_int min2_int max_two min_two max_three min_three max_four min_four
set_option linter.unusedVariables false
set_option linter.unusedSimpArgs false
def marquetryref01_Width.l0 : Nat → Int → Int → Option (Int)
 | 0, _, _ => none
 | k + 1, x0, x3 => if x0 > 0 then (marquetryref01_Width.l0 k (IntKind.u64.wrap (Int.tdiv x0 2)) (wrap64 (x3 + 1))) else (some x3)
def marquetryref01_Width.f (k : Nat) (a0 : Int) : Option (Int) := marquetryref01_Width.l0 k a0 0
theorem marquetryref01_Width.mono_l : ∀ k, (∀ y0 y1, LeO (marquetryref01_Width.l0 k y0 y1) (marquetryref01_Width.l0 (k + 1) y0 y1))
 | 0 => fun _ _ r h => by simp [marquetryref01_Width.l0] at h
 | k + 1 => by
  have ih0 := marquetryref01_Width.mono_l k
  ·intro y0 y1
   unfold marquetryref01_Width.l0
   repeat' first
   | (with_reducible exact ih0 _ _)
   | (with_reducible exact LeO.refl _)
   | (with_reducible exact LeO.none _)
   | (with_reducible refine LeO.ite ?_ ?_)
   | (with_reducible refine LeO.bind ?_ (fun _ => ?_))
   | exact ih0 _ _
   | exact LeO.none _
   | refine LeO.ite ?_ ?_
   | refine LeO.bind ?_ (fun _ => ?_)
theorem marquetryref01_Width.mono : ∀ a0 k, LeO (marquetryref01_Width.f k a0) (marquetryref01_Width.f (k + 1) a0) := by
 intro a0 k
 have ih0 := marquetryref01_Width.mono_l k
 unfold marquetryref01_Width.f
 repeat' first
   | (with_reducible exact ih0 _ _)
   | (with_reducible exact LeO.refl _)
   | (with_reducible exact LeO.none _)
   | (with_reducible refine LeO.ite ?_ ?_)
   | (with_reducible refine LeO.bind ?_ (fun _ => ?_))
   | exact ih0 _ _
   | exact LeO.none _
   | refine LeO.ite ?_ ?_
   | refine LeO.bind ?_ (fun _ => ?_)
set_option maxHeartbeats 8000000 in
set_option maxRecDepth 100000 in
theorem marquetryref01_Width.calls (k : Nat) (a0 : Int) (r : Int) (w : World) (h : marquetryref01_Width.f k a0 = some r) :
  Calls Try.prog 42 #[.int .u64 a0] w fun e w' => e = .returned (.int .i64 r) ∧ Drawn0 w w' := by
 have H : (marquetryref01_Width.l0 k a0 0) = some r := h
 clear h
 have H' := Aside0.mk H
 clear H
 go_enter Try.func42, Try.ntmps42
 go_wp2
 go_loopg [0, 3] k (fun kq v0 v3 w' => ∃ (x0_1 : Int) (x3_1 : Int), v0 = .int .u64 x0_1 ∧ v3 = .int .i64 x3_1 ∧ Aside0 (marquetryref01_Width.l0 kq x0_1 x3_1 = some r) ∧ Aside0 (kq ≤ k) ∧ Drawn0 w w')
 case atStart => exact ⟨(a0), (0), (by first | rfl | (simp; done) | (simp [*]; done)), (by first | rfl | (simp; done) | (simp [*]; done)), H', ⟨Nat.le_refl _⟩, by repeat (first | exact Drawn0.refl _ | apply Drawn0.step)⟩
 case round =>
  clear H'
  obtain ⟨x0_1, x3_1, rfl, rfl, HA, HK1, ⟨m1, rfl⟩⟩ := hrel
  cases gk with
  | zero => exact absurd HA.out (by simp [marquetryref01_Width.l0])
  | succ k1 =>
   have H := HA.out
   clear HA
   simp only [marquetryref01_Width.l0] at H
   by_cases c2 : x0_1 > 0
   ·rw [if_pos c2] at H
    have c2b0 : decide (0 < x0_1) = true := decide_eq_true c2
    clear c2
    have H' := Aside0.mk H
    clear H
    go_wp2
    go_roundg k1
    case measure => have := HK1.out; omega
    case rel => exact ⟨(IntKind.u64.wrap (Int.tdiv x0_1 2)), (wrap64 (x3_1 + 1)), (by first | rfl | (simp; done) | (simp [*]; done)), (by first | rfl | (simp; done) | (simp [*]; done)), H', ⟨by have := HK1.out; omega⟩, by repeat (first | exact Drawn0.refl _ | apply Drawn0.step)⟩
   ·rw [if_neg c2] at H
    have c2b0 : decide (0 < x0_1) = false := decide_eq_false c2
    clear c2
    obtain rfl := Option.some.inj H
    go_wp2
    go_ret
    exact ⟨by first | rfl | (simp; done) | (simp [*]; done), by repeat (first | exact Drawn0.refl _ | apply Drawn0.step)⟩
end Go.Proofs.Ytpibhiacmceekaa.X
end

section
namespace Go.Proofs.Ytpibhiacmceekaa.X
open Go.RowKit Go.Proofs.YtpibhiacmceekaaW.PrintWords Go.Proofs.YtpibhiacmceekaaW.PrintLast Go.Proofs.YtpibhiacmceekaaW.PrintMore
attribute [local go_sem] max2_int min2_int max_two min_two max_three min_three max_four min_four
set_option linter.unusedVariables false
set_option linter.unusedSimpArgs false
mutual
def marquetryref01_ReadLittle.j0 : Nat → List Int → Int → Int → Bool → Option (Int × Int)
 | 0, _, _, _, _ => none
 | k + 1, x0, x1, x2, x25 => if x25 = true then (some (0, 2)) else (if x2 > (wrap64 ((x0.length : Int) - x1)) then (some (0, 6)) else (marquetryref01_ReadLittle.l0 k x0 x1 0 (wrap64 (x2 - 1))))
def marquetryref01_ReadLittle.l0 : Nat → List Int → Int → Int → Int → Option (Int × Int)
 | 0, _, _, _, _ => none
 | k + 1, x0, x1, x8, x9 => if x9 ≥ 0 then (if 0 ≤ (wrap64 (x1 + x9)) then (if (wrap64 (x1 + x9)) < (x0.length : Int) then (marquetryref01_ReadLittle.l0 k x0 x1 (IntKind.u64.wrap ((IntKind.u64.wrap (x8 * 256)) + (IntKind.u64.wrap (rd x0 (wrap64 (x1 + x9)))))) (wrap64 (x9 - 1))) else (none)) else (none)) else (some (x8, 0))
end
def marquetryref01_ReadLittle.f (k : Nat) (l0 : List Int) (a1 : Int) (a2 : Int) : Option (Int × Int) := if a2 < 0 then (marquetryref01_ReadLittle.j0 k l0 a1 a2 true) else (if a2 > 8 then (marquetryref01_ReadLittle.j0 k l0 a1 a2 true) else (if a1 < 0 then (marquetryref01_ReadLittle.j0 k l0 a1 a2 true) else (marquetryref01_ReadLittle.j0 k l0 a1 a2 (decide (a1 > (l0.length : Int))))))
theorem marquetryref01_ReadLittle.mono_l : ∀ k, (∀ y0 y1 y2 y3, LeO (marquetryref01_ReadLittle.j0 k y0 y1 y2 y3) (marquetryref01_ReadLittle.j0 (k + 1) y0 y1 y2 y3)) ∧ (∀ y0 y1 y2 y3, LeO (marquetryref01_ReadLittle.l0 k y0 y1 y2 y3) (marquetryref01_ReadLittle.l0 (k + 1) y0 y1 y2 y3))
 | 0 => ⟨fun _ _ _ _ r h => by simp [marquetryref01_ReadLittle.j0] at h, fun _ _ _ _ r h => by simp [marquetryref01_ReadLittle.l0] at h⟩
 | k + 1 => by
  obtain ⟨ih0, ih1⟩ := marquetryref01_ReadLittle.mono_l k
  refine ⟨?_, ?_⟩
  ·intro y0 y1 y2 y3
   unfold marquetryref01_ReadLittle.j0
   repeat' first
   | (with_reducible exact ih0 _ _ _ _)
   | (with_reducible exact ih1 _ _ _ _)
   | (with_reducible exact LeO.refl _)
   | (with_reducible exact LeO.none _)
   | (with_reducible refine LeO.ite ?_ ?_)
   | (with_reducible refine LeO.bind ?_ (fun _ => ?_))
   | exact ih0 _ _ _ _
   | exact ih1 _ _ _ _
   | exact LeO.none _
   | refine LeO.ite ?_ ?_
   | refine LeO.bind ?_ (fun _ => ?_)
  ·intro y0 y1 y2 y3
   unfold marquetryref01_ReadLittle.l0
   repeat' first
   | (with_reducible exact ih0 _ _ _ _)
   | (with_reducible exact ih1 _ _ _ _)
   | (with_reducible exact LeO.refl _)
   | (with_reducible exact LeO.none _)
   | (with_reducible refine LeO.ite ?_ ?_)
   | (with_reducible refine LeO.bind ?_ (fun _ => ?_))
   | exact ih0 _ _ _ _
   | exact ih1 _ _ _ _
   | exact LeO.none _
   | refine LeO.ite ?_ ?_
   | refine LeO.bind ?_ (fun _ => ?_)
theorem marquetryref01_ReadLittle.mono : ∀ a0 a1 a2 k, LeO (marquetryref01_ReadLittle.f k a0 a1 a2) (marquetryref01_ReadLittle.f (k + 1) a0 a1 a2) := by
 intro a0 a1 a2 k
 obtain ⟨ih0, ih1⟩ := marquetryref01_ReadLittle.mono_l k
 unfold marquetryref01_ReadLittle.f
 repeat' first
   | (with_reducible exact ih0 _ _ _ _)
   | (with_reducible exact ih1 _ _ _ _)
   | (with_reducible exact LeO.refl _)
   | (with_reducible exact LeO.none _)
   | (with_reducible refine LeO.ite ?_ ?_)
   | (with_reducible refine LeO.bind ?_ (fun _ => ?_))
   | exact ih0 _ _ _ _
   | exact ih1 _ _ _ _
   | exact LeO.none _
   | refine LeO.ite ?_ ?_
   | refine LeO.bind ?_ (fun _ => ?_)
set_option maxHeartbeats 8000000 in
set_option maxRecDepth 100000 in
theorem marquetryref01_ReadLittle.calls (k : Nat) (A0 : Option Addr) (c0 : Nat) (l0 : List Int) (a1 : Int) (a2 : Int) (r1 : Int) (r2 : Int) (w : World) (hr0 : Kd.C (Kd.int .u8) w A0 l0.length l0) (hc0 : l0.length ≤ c0) (h : marquetryref01_ReadLittle.f k l0 a1 a2 = some (r1, r2)) :
  Calls Try.prog 51 #[.slice A0 l0.length c0, .int .i64 a1, .int .i64 a2] w fun e w' => e = .returned (.tuple #[.int .u64 r1, .int .i64 r2]) ∧ Drawn0 w w' := by
 have HR0 := Aside0.mk hr0
 have HC0 := Aside0.mk hc0
 clear hr0 hc0
 have H : (if a2 < 0 then (marquetryref01_ReadLittle.j0 k l0 a1 a2 true) else (if a2 > 8 then (marquetryref01_ReadLittle.j0 k l0 a1 a2 true) else (if a1 < 0 then (marquetryref01_ReadLittle.j0 k l0 a1 a2 true) else (marquetryref01_ReadLittle.j0 k l0 a1 a2 (decide (a1 > (l0.length : Int))))))) = some (r1, r2) := h
 clear h
 have HC4 := Aside0.mk H
 clear H
 go_enter Try.func51, Try.ntmps51
 go_upto_region 1 with (fail)
 go_cut [25] (fun v25 wc => ∃ (kq : Nat) (x25_3 : Bool), v25 = .bool x25_3 ∧ Aside0 (marquetryref01_ReadLittle.j0 kq l0 a1 a2 x25_3 = some (r1, r2)) ∧ Aside0 (kq ≤ k) ∧ Drawn0 w wc)
 case first =>
  have H := HC4.out
  clear HC4
  by_cases c5 : a2 < 0
  ·rw [if_pos c5] at H
   have c5b0 : decide (a2 < 0) = true := decide_eq_true c5
   clear c5
   (first | rw [c5b0] | (simp only [i64_w, i32_w]; rw [c5b0]) | skip)
   have H' := Aside0.mk H
   clear H
   go_wp2
   go_meet
   case rel => exact ⟨_, (true), (by first | rfl | (simp; done) | (simp [*]; done)), H', ⟨by first | omega | exact Nat.le_refl _⟩, by repeat (first | exact Drawn0.refl _ | apply Drawn0.step)⟩
  ·rw [if_neg c5] at H
   have c5b0 : decide (a2 < 0) = false := decide_eq_false c5
   clear c5
   (first | rw [c5b0] | (simp only [i64_w, i32_w]; rw [c5b0]) | skip)
   by_cases c6 : a2 > 8
   ·rw [if_pos c6] at H
    have c6b0 : decide (8 < a2) = true := decide_eq_true c6
    clear c6
    have H' := Aside0.mk H
    clear H
    go_wp2
    go_meet
    case rel => exact ⟨_, (true), (by first | rfl | (simp; done) | (simp [*]; done)), H', ⟨by first | omega | exact Nat.le_refl _⟩, by repeat (first | exact Drawn0.refl _ | apply Drawn0.step)⟩
   ·rw [if_neg c6] at H
    have c6b0 : decide (8 < a2) = false := decide_eq_false c6
    clear c6
    by_cases c7 : a1 < 0
    ·rw [if_pos c7] at H
     have c7b0 : decide (a1 < 0) = true := decide_eq_true c7
     clear c7
     have H' := Aside0.mk H
     clear H
     go_wp2
     go_meet
     case rel => exact ⟨_, (true), (by first | rfl | (simp; done) | (simp [*]; done)), H', ⟨by first | omega | exact Nat.le_refl _⟩, by repeat (first | exact Drawn0.refl _ | apply Drawn0.step)⟩
    ·rw [if_neg c7] at H
     have c7b0 : decide (a1 < 0) = false := decide_eq_false c7
     clear c7
     have H' := Aside0.mk H
     clear H
     go_wp2
     go_meet
     case rel => exact ⟨_, (decide (a1 > (l0.length : Int))), (by first | rfl | (simp; done) | (simp [*]; done)), H', ⟨by first | omega | exact Nat.le_refl _⟩, by repeat (first | exact Drawn0.refl _ | apply Drawn0.step)⟩
 case rest =>
  clear HC4
  try clear p2
  try clear c5
  try clear c5b0
  try clear c6
  try clear c6b0
  try clear c7
  try clear c7b0
  obtain ⟨kq, x25_3, rfl, HA, HJ3, ⟨mc3, rfl⟩⟩ := hcut
  cases kq with
  | zero => exact absurd HA.out (by simp [marquetryref01_ReadLittle.j0])
  | succ kj3 =>
   have H := HA.out
   clear HA
   simp only [marquetryref01_ReadLittle.j0] at H
   by_cases c8 : x25_3 = true
   ·subst c8
    have H1 : (some (0, 2)) = some (r1, r2) := by rw [if_pos rfl] at H; exact H
    clear H
    have H := H1
    clear H1
    simp only [Option.some.injEq, Prod.mk.injEq] at H
    obtain ⟨rfl, rfl⟩ := H
    go_wp2
    go_ret2
    exact ⟨by first | rfl | (simp; done) | (simp [*]; done), by repeat (first | exact Drawn0.refl _ | apply Drawn0.step)⟩
   ·replace c8 := Bool.eq_false_iff.mpr c8
    subst c8
    have H1 : (if a2 > (wrap64 ((l0.length : Int) - a1)) then (some (0, 6)) else (marquetryref01_ReadLittle.l0 kj3 l0 a1 0 (wrap64 (a2 - 1)))) = some (r1, r2) := by rw [if_neg (show ¬ (false = true) by decide)] at H; exact H
    clear H
    have H := H1
    clear H1
    by_cases c9 : a2 > (wrap64 ((l0.length : Int) - a1))
    ·rw [if_pos c9] at H
     have c9b0 : decide ((wrap64 ((l0.length : Int) - a1)) < a2) = true := decide_eq_true c9
     clear c9
     simp only [Option.some.injEq, Prod.mk.injEq] at H
     obtain ⟨rfl, rfl⟩ := H
     go_wp2
     go_ret2
     exact ⟨by first | rfl | (simp; done) | (simp [*]; done), by repeat (first | exact Drawn0.refl _ | apply Drawn0.step)⟩
    ·rw [if_neg c9] at H
     have c9b0 : decide ((wrap64 ((l0.length : Int) - a1)) < a2) = false := decide_eq_false c9
     clear c9
     have H' := Aside0.mk H
     clear H
     go_wp2
     go_loopg [8, 9] kj3 (fun kq v8 v9 w' => ∃ (x8_2 : Int) (x9_2 : Int), v8 = .int .u64 x8_2 ∧ v9 = .int .i64 x9_2 ∧ Aside0 (marquetryref01_ReadLittle.l0 kq l0 a1 x8_2 x9_2 = some (r1, r2)) ∧ Aside0 (kq ≤ kj3) ∧ Drawn0 w w')
     case atStart => exact ⟨(0), (wrap64 (a2 - 1)), (by first | rfl | (simp; done) | (simp [*]; done)), (by first | rfl | (simp; done) | (simp [*]; done)), H', ⟨Nat.le_refl _⟩, by repeat (first | exact Drawn0.refl _ | apply Drawn0.step)⟩
     case round =>
      clear H'
      try clear p2
      try clear c3
      try clear c5
      try clear c5b0
      try clear c6
      try clear c6b0
      try clear p6
      try clear c7
      try clear c7b0
      try clear c8
      try clear c9
      try clear c9b0
      try clear p2
      obtain ⟨x8_2, x9_2, rfl, rfl, HA, HK2, ⟨m2, rfl⟩⟩ := hrel
      cases gk with
      | zero => exact absurd HA.out (by simp [marquetryref01_ReadLittle.l0])
      | succ k2 =>
       have H := HA.out
       clear HA
       simp only [marquetryref01_ReadLittle.l0] at H
       by_cases c10 : x9_2 ≥ 0
       ·rw [if_pos c10] at H
        have c10b0 : decide (0 ≤ x9_2) = true := decide_eq_true c10
        clear c10
        obtain ⟨ji11, hji11⟩ : ∃ j_ : Int, (wrap64 (a1 + x9_2)) = j_ := ⟨_, rfl⟩
        replace H : (if 0 ≤ (ji11) then (if (ji11) < (l0.length : Int) then (marquetryref01_ReadLittle.l0 k2 l0 a1 (IntKind.u64.wrap ((IntKind.u64.wrap (x8_2 * 256)) + (IntKind.u64.wrap (rd l0 (ji11))))) (wrap64 (x9_2 - 1))) else (none)) else (none)) = some (r1, r2) := by first | (rw [hji11] at H; exact H) | (simp only [hji11] at H ⊢; exact H)
        have hji11w : (IntKind.i64.wrap (a1 + x9_2)) = ji11 := (i64_w _).trans hji11
        by_cases c12 : 0 ≤ (ji11)
        ·rw [if_pos c12] at H
         have c12b0 : decide (0 ≤ (ji11)) = true := decide_eq_true c12
         clear c12
         by_cases c13 : (ji11) < (l0.length : Int)
         ·rw [if_pos c13] at H
          have c13b0 : decide ((ji11) < (l0.length : Int)) = true := decide_eq_true c13
          clear c13
          have H' := Aside0.mk H
          clear H
          have p337 : 0 ≤ ((ji11) : Int) := of_decide_eq_true (by first | (with_reducible assumption) | assumption)
          have q337 : (ji11) < (l0.length : Int) := of_decide_eq_true (by first | (with_reducible assumption) | assumption)
          obtain ⟨ad337, e337, hx337_0⟩ := Kd.at_int HR0.out (ji11) p337 q337
          cases e337
          replace p337 := eq_true p337
          replace q337 := eq_true q337
          go_wp2
          go_roundg k2
          case measure => have := HJ3.out; have := HK2.out; omega
          case rel => exact ⟨(IntKind.u64.wrap ((IntKind.u64.wrap (x8_2 * 256)) + (IntKind.u64.wrap (rd l0 (ji11))))), (wrap64 (x9_2 - 1)), (by first | rfl | (simp; done) | (simp only [← hji11] <;> (first | rfl | simp)) | (simp [*]; done)), (by first | rfl | (simp; done) | (simp [*]; done)), H', ⟨by have := HJ3.out; have := HK2.out; omega⟩, by repeat (first | exact Drawn0.refl _ | apply Drawn0.step)⟩
         ·rw [if_neg c13] at H
          exact absurd H (by simp)
        ·rw [if_neg c12] at H
         exact absurd H (by simp)
       ·rw [if_neg c10] at H
        have c10b0 : decide (0 ≤ x9_2) = false := decide_eq_false c10
        clear c10
        simp only [Option.some.injEq, Prod.mk.injEq] at H
        obtain ⟨rfl, rfl⟩ := H
        go_wp2
        go_ret2
        exact ⟨by first | rfl | (simp; done) | (simp [*]; done), by repeat (first | exact Drawn0.refl _ | apply Drawn0.step)⟩
end Go.Proofs.Ytpibhiacmceekaa.X
end

section
namespace Go.Proofs.Ytpibhiacmceekaa.X
open Go.RowKit Go.Proofs.YtpibhiacmceekaaW.PrintWords Go.Proofs.YtpibhiacmceekaaW.PrintLast Go.Proofs.YtpibhiacmceekaaW.PrintMore
attribute [local go_sem] max2_int min2_int max_two min_two max_three min_three max_four min_four
set_option linter.unusedVariables false
set_option linter.unusedSimpArgs false
mutual
def marquetryref01_ReadVarint.j0 : Nat → List Int → Int → Bool → Option (Int × Int × Int)
 | 0, _, _, _ => none
 | k + 1, x0, x1, x18 => if x18 = true then (some (0, 0, 2)) else (marquetryref01_ReadVarint.l0 k x0 x1 0 1 0)
def marquetryref01_ReadVarint.l0 : Nat → List Int → Int → Int → Int → Int → Option (Int × Int × Int)
 | 0, _, _, _, _, _ => none
 | k + 1, x0, x1, x7, x8, x9 => if (wrap64 (x1 + x9)) ≥ (x0.length : Int) then (some (0, 0, 6)) else (if 0 ≤ (wrap64 (x1 + x9)) then (if (wrap64 (x1 + x9)) < (x0.length : Int) then (if x9 = 9 then (marquetryref01_ReadVarint.j2 k x0 x1 x7 x8 x9 (rd x0 (wrap64 (x1 + x9))) (decide ((rd x0 (wrap64 (x1 + x9))) > 1))) else (marquetryref01_ReadVarint.j2 k x0 x1 x7 x8 x9 (rd x0 (wrap64 (x1 + x9))) false)) else (none)) else (none))
def marquetryref01_ReadVarint.j2 : Nat → List Int → Int → Int → Int → Int → Int → Bool → Option (Int × Int × Int)
 | 0, _, _, _, _, _, _, _ => none
 | k + 1, x0, x1, x7, x8, x9, x10, x38 => if x38 = true then (some (0, 0, 110)) else (if x10 < 128 then (if x10 = 0 then (if x9 > 0 then (some (0, 0, 8)) else (some (IntKind.u64.wrap (x7 + (IntKind.u64.wrap ((IntKind.u64.wrap (Int.tmod x10 128)) * x8))), wrap64 ((wrap64 (x1 + x9)) + 1), 0))) else (some (IntKind.u64.wrap (x7 + (IntKind.u64.wrap ((IntKind.u64.wrap (Int.tmod x10 128)) * x8))), wrap64 ((wrap64 (x1 + x9)) + 1), 0))) else (marquetryref01_ReadVarint.l0 k x0 x1 (IntKind.u64.wrap (x7 + (IntKind.u64.wrap ((IntKind.u64.wrap (Int.tmod x10 128)) * x8)))) (IntKind.u64.wrap (x8 * 128)) (wrap64 (x9 + 1))))
end
def marquetryref01_ReadVarint.f (k : Nat) (l0 : List Int) (a1 : Int) : Option (Int × Int × Int) := if a1 < 0 then (marquetryref01_ReadVarint.j0 k l0 a1 true) else (marquetryref01_ReadVarint.j0 k l0 a1 (decide (a1 > (l0.length : Int))))
theorem marquetryref01_ReadVarint.mono_l : ∀ k, (∀ y0 y1 y2, LeO (marquetryref01_ReadVarint.j0 k y0 y1 y2) (marquetryref01_ReadVarint.j0 (k + 1) y0 y1 y2)) ∧ (∀ y0 y1 y2 y3 y4, LeO (marquetryref01_ReadVarint.l0 k y0 y1 y2 y3 y4) (marquetryref01_ReadVarint.l0 (k + 1) y0 y1 y2 y3 y4)) ∧ (∀ y0 y1 y2 y3 y4 y5 y6, LeO (marquetryref01_ReadVarint.j2 k y0 y1 y2 y3 y4 y5 y6) (marquetryref01_ReadVarint.j2 (k + 1) y0 y1 y2 y3 y4 y5 y6))
 | 0 => ⟨fun _ _ _ r h => by simp [marquetryref01_ReadVarint.j0] at h, fun _ _ _ _ _ r h => by simp [marquetryref01_ReadVarint.l0] at h, fun _ _ _ _ _ _ _ r h => by simp [marquetryref01_ReadVarint.j2] at h⟩
 | k + 1 => by
  obtain ⟨ih0, ih1, ih2⟩ := marquetryref01_ReadVarint.mono_l k
  refine ⟨?_, ?_, ?_⟩
  ·intro y0 y1 y2
   unfold marquetryref01_ReadVarint.j0
   repeat' first
   | (with_reducible exact ih0 _ _ _)
   | (with_reducible exact ih1 _ _ _ _ _)
   | (with_reducible exact ih2 _ _ _ _ _ _ _)
   | (with_reducible exact LeO.refl _)
   | (with_reducible exact LeO.none _)
   | (with_reducible refine LeO.ite ?_ ?_)
   | (with_reducible refine LeO.bind ?_ (fun _ => ?_))
   | exact ih0 _ _ _
   | exact ih1 _ _ _ _ _
   | exact ih2 _ _ _ _ _ _ _
   | exact LeO.none _
   | refine LeO.ite ?_ ?_
   | refine LeO.bind ?_ (fun _ => ?_)
  ·intro y0 y1 y2 y3 y4
   unfold marquetryref01_ReadVarint.l0
   repeat' first
   | (with_reducible exact ih0 _ _ _)
   | (with_reducible exact ih1 _ _ _ _ _)
   | (with_reducible exact ih2 _ _ _ _ _ _ _)
   | (with_reducible exact LeO.refl _)
   | (with_reducible exact LeO.none _)
   | (with_reducible refine LeO.ite ?_ ?_)
   | (with_reducible refine LeO.bind ?_ (fun _ => ?_))
   | exact ih0 _ _ _
   | exact ih1 _ _ _ _ _
   | exact ih2 _ _ _ _ _ _ _
   | exact LeO.none _
   | refine LeO.ite ?_ ?_
   | refine LeO.bind ?_ (fun _ => ?_)
  ·intro y0 y1 y2 y3 y4 y5 y6
   unfold marquetryref01_ReadVarint.j2
   repeat' first
   | (with_reducible exact ih0 _ _ _)
   | (with_reducible exact ih1 _ _ _ _ _)
   | (with_reducible exact ih2 _ _ _ _ _ _ _)
   | (with_reducible exact LeO.refl _)
   | (with_reducible exact LeO.none _)
   | (with_reducible refine LeO.ite ?_ ?_)
   | (with_reducible refine LeO.bind ?_ (fun _ => ?_))
   | exact ih0 _ _ _
   | exact ih1 _ _ _ _ _
   | exact ih2 _ _ _ _ _ _ _
   | exact LeO.none _
   | refine LeO.ite ?_ ?_
   | refine LeO.bind ?_ (fun _ => ?_)
theorem marquetryref01_ReadVarint.mono : ∀ a0 a1 k, LeO (marquetryref01_ReadVarint.f k a0 a1) (marquetryref01_ReadVarint.f (k + 1) a0 a1) := by
 intro a0 a1 k
 obtain ⟨ih0, ih1, ih2⟩ := marquetryref01_ReadVarint.mono_l k
 unfold marquetryref01_ReadVarint.f
 repeat' first
   | (with_reducible exact ih0 _ _ _)
   | (with_reducible exact ih1 _ _ _ _ _)
   | (with_reducible exact ih2 _ _ _ _ _ _ _)
   | (with_reducible exact LeO.refl _)
   | (with_reducible exact LeO.none _)
   | (with_reducible refine LeO.ite ?_ ?_)
   | (with_reducible refine LeO.bind ?_ (fun _ => ?_))
   | exact ih0 _ _ _
   | exact ih1 _ _ _ _ _
   | exact ih2 _ _ _ _ _ _ _
   | exact LeO.none _
   | refine LeO.ite ?_ ?_
   | refine LeO.bind ?_ (fun _ => ?_)
set_option maxHeartbeats 8000000 in
set_option maxRecDepth 100000 in
theorem marquetryref01_ReadVarint.calls (k : Nat) (A0 : Option Addr) (c0 : Nat) (l0 : List Int) (a1 : Int) (r1 : Int) (r2 : Int) (r3 : Int) (w : World) (hr0 : Kd.C (Kd.int .u8) w A0 l0.length l0) (hc0 : l0.length ≤ c0) (h : marquetryref01_ReadVarint.f k l0 a1 = some (r1, r2, r3)) :
  Calls Try.prog 72 #[.slice A0 l0.length c0, .int .i64 a1] w fun e w' => e = .returned (.tuple #[.int .u64 r1, .int .i64 r2, .int .i64 r3]) ∧ Drawn0 w w' := by
 have HR0 := Aside0.mk hr0
 have HC0 := Aside0.mk hc0
 clear hr0 hc0
 have H : (if a1 < 0 then (marquetryref01_ReadVarint.j0 k l0 a1 true) else (marquetryref01_ReadVarint.j0 k l0 a1 (decide (a1 > (l0.length : Int))))) = some (r1, r2, r3) := h
 clear h
 have HC3 := Aside0.mk H
 clear H
 go_enter Try.func72, Try.ntmps72
 go_upto_region 1 with (fail)
 go_cut [18] (fun v18 wc => ∃ (kq : Nat) (x18_2 : Bool), v18 = .bool x18_2 ∧ Aside0 (marquetryref01_ReadVarint.j0 kq l0 a1 x18_2 = some (r1, r2, r3)) ∧ Aside0 (kq ≤ k) ∧ Drawn0 w wc)
 case first =>
  have H := HC3.out
  clear HC3
  by_cases c4 : a1 < 0
  ·rw [if_pos c4] at H
   have c4b0 : decide (a1 < 0) = true := decide_eq_true c4
   clear c4
   (first | rw [c4b0] | (simp only [i64_w, i32_w]; rw [c4b0]) | skip)
   have H' := Aside0.mk H
   clear H
   go_wp2
   go_meet
   case rel => exact ⟨_, (true), (by first | rfl | (simp; done) | (simp [*]; done)), H', ⟨by first | omega | exact Nat.le_refl _⟩, by repeat (first | exact Drawn0.refl _ | apply Drawn0.step)⟩
  ·rw [if_neg c4] at H
   have c4b0 : decide (a1 < 0) = false := decide_eq_false c4
   clear c4
   (first | rw [c4b0] | (simp only [i64_w, i32_w]; rw [c4b0]) | skip)
   have H' := Aside0.mk H
   clear H
   go_wp2
   go_meet
   case rel => exact ⟨_, (decide (a1 > (l0.length : Int))), (by first | rfl | (simp; done) | (simp [*]; done)), H', ⟨by first | omega | exact Nat.le_refl _⟩, by repeat (first | exact Drawn0.refl _ | apply Drawn0.step)⟩
 case rest =>
  clear HC3
  try clear p2
  try clear c4
  try clear c4b0
  obtain ⟨kq, x18_2, rfl, HA, HJ2, ⟨mc2, rfl⟩⟩ := hcut
  cases kq with
  | zero => exact absurd HA.out (by simp [marquetryref01_ReadVarint.j0])
  | succ kj2 =>
   have H := HA.out
   clear HA
   simp only [marquetryref01_ReadVarint.j0] at H
   by_cases c5 : x18_2 = true
   ·subst c5
    have H1 : (some (0, 0, 2)) = some (r1, r2, r3) := by rw [if_pos rfl] at H; exact H
    clear H
    have H := H1
    clear H1
    simp only [Option.some.injEq, Prod.mk.injEq] at H
    obtain ⟨rfl, rfl, rfl⟩ := H
    go_wp2
    go_ret3
    exact ⟨by first | rfl | (simp; done) | (simp [*]; done), by repeat (first | exact Drawn0.refl _ | apply Drawn0.step)⟩
   ·replace c5 := Bool.eq_false_iff.mpr c5
    subst c5
    have H1 : (marquetryref01_ReadVarint.l0 kj2 l0 a1 0 1 0) = some (r1, r2, r3) := by rw [if_neg (show ¬ (false = true) by decide)] at H; exact H
    clear H
    have H := H1
    clear H1
    have H' := Aside0.mk H
    clear H
    go_wp2
    go_loopg [7, 8, 9] kj2 (fun kq v7 v8 v9 w' => ∃ (x7_2 : Int) (x8_2 : Int) (x9_2 : Int), v7 = .int .u64 x7_2 ∧ v8 = .int .u64 x8_2 ∧ v9 = .int .i64 x9_2 ∧ Aside0 (marquetryref01_ReadVarint.l0 kq l0 a1 x7_2 x8_2 x9_2 = some (r1, r2, r3)) ∧ Aside0 (kq ≤ kj2) ∧ Drawn0 w w')
    case atStart => exact ⟨(0), (1), (0), (by first | rfl | (simp; done) | (simp [*]; done)), (by first | rfl | (simp; done) | (simp [*]; done)), (by first | rfl | (simp; done) | (simp [*]; done)), H', ⟨Nat.le_refl _⟩, by repeat (first | exact Drawn0.refl _ | apply Drawn0.step)⟩
    case round =>
     clear H'
     try clear c2
     try clear p2
     try clear c4
     try clear c4b0
     try clear c5
     try clear p2
     obtain ⟨x7_2, x8_2, x9_2, rfl, rfl, rfl, HA, HK2, ⟨m2, rfl⟩⟩ := hrel
     cases gk with
     | zero => exact absurd HA.out (by simp [marquetryref01_ReadVarint.l0])
     | succ k2 =>
      have H := HA.out
      clear HA
      simp only [marquetryref01_ReadVarint.l0] at H
      by_cases c6 : (wrap64 (a1 + x9_2)) ≥ (l0.length : Int)
      ·rw [if_pos c6] at H
       have c6b0 : decide ((l0.length : Int) ≤ (wrap64 (a1 + x9_2))) = true := decide_eq_true c6
       clear c6
       simp only [Option.some.injEq, Prod.mk.injEq] at H
       obtain ⟨rfl, rfl, rfl⟩ := H
       go_wp2
       go_ret3
       exact ⟨by first | rfl | (simp; done) | (simp [*]; done), by repeat (first | exact Drawn0.refl _ | apply Drawn0.step)⟩
      ·rw [if_neg c6] at H
       have c6b0 : decide ((l0.length : Int) ≤ (wrap64 (a1 + x9_2))) = false := decide_eq_false c6
       clear c6
       obtain ⟨ji7, hji7⟩ : ∃ j_ : Int, (wrap64 (a1 + x9_2)) = j_ := ⟨_, rfl⟩
       replace H : (if 0 ≤ (ji7) then (if (ji7) < (l0.length : Int) then (if x9_2 = 9 then (marquetryref01_ReadVarint.j2 k2 l0 a1 x7_2 x8_2 x9_2 (rd l0 (ji7)) (decide ((rd l0 (ji7)) > 1))) else (marquetryref01_ReadVarint.j2 k2 l0 a1 x7_2 x8_2 x9_2 (rd l0 (ji7)) false)) else (none)) else (none)) = some (r1, r2, r3) := by first | (rw [hji7] at H; exact H) | (simp only [hji7] at H ⊢; exact H)
       (try rw [hji7] at c6b0)
       have hji7w : (IntKind.i64.wrap (a1 + x9_2)) = ji7 := (i64_w _).trans hji7
       by_cases c8 : 0 ≤ (ji7)
       ·rw [if_pos c8] at H
        have c8b0 : decide (0 ≤ (ji7)) = true := decide_eq_true c8
        clear c8
        by_cases c9 : (ji7) < (l0.length : Int)
        ·rw [if_pos c9] at H
         have c9b0 : decide ((ji7) < (l0.length : Int)) = true := decide_eq_true c9
         clear c9
         have HC10 := Aside0.mk H
         clear H
         have p338 : 0 ≤ ((ji7) : Int) := of_decide_eq_true (by first | (with_reducible assumption) | assumption)
         have q338 : (ji7) < (l0.length : Int) := of_decide_eq_true (by first | (with_reducible assumption) | assumption)
         obtain ⟨ad338, e338, hx338_0⟩ := Kd.at_int HR0.out (ji7) p338 q338
         cases e338
         replace p338 := eq_true p338
         replace q338 := eq_true q338
         go_upto_region 9 with (fail)
         go_cut [38] (fun v38 wc => ∃ (kq : Nat) (x38_9 : Bool), v38 = .bool x38_9 ∧ Aside0 (marquetryref01_ReadVarint.j2 kq l0 a1 x7_2 x8_2 x9_2 (rd l0 (ji7)) x38_9 = some (r1, r2, r3)) ∧ Aside0 (kq ≤ k2) ∧ Drawn0 w wc)
         case first =>
          have H := HC10.out
          clear HC10
          by_cases c11 : x9_2 = 9
          ·rw [if_pos c11] at H
           have c11b0 : (x9_2 == 9) = true := beq_iff_eq.mpr c11
           have c11b1 : (x9_2 != 9) = false := bne_eq_false_iff_eq.mpr c11
           clear c11
           (first | rw [c11b0] | (simp only [i64_w, i32_w]; rw [c11b0]) | skip)
           have H' := Aside0.mk H
           clear H
           go_wp2
           go_meet
           case rel => exact ⟨_, (decide ((rd l0 (ji7)) > 1)), (by first | rfl | (simp; done) | (simp only [← hji7] <;> (first | rfl | simp)) | (simp [*]; done)), H', ⟨by have := HJ2.out; have := HK2.out; first | omega | exact Nat.le_refl _⟩, by repeat (first | exact Drawn0.refl _ | apply Drawn0.step)⟩
          ·rw [if_neg c11] at H
           have c11b0 : (x9_2 == 9) = false := beq_eq_false_iff_ne.mpr c11
           have c11b1 : (x9_2 != 9) = true := bne_iff_ne.mpr c11
           (first | rw [c11b0] | (simp only [i64_w, i32_w]; rw [c11b0]) | skip)
           have H' := Aside0.mk H
           clear H
           go_wp2
           go_meet
           case rel => exact ⟨_, (false), (by first | rfl | (simp; done) | (simp [*]; done)), H', ⟨by have := HJ2.out; have := HK2.out; first | omega | exact Nat.le_refl _⟩, by repeat (first | exact Drawn0.refl _ | apply Drawn0.step)⟩
         case rest =>
          clear HC10
          try clear c1
          try clear c2
          try clear p2
          try clear p3
          try clear q3
          try clear hx3
          try clear c4
          try clear c4b0
          try clear c5
          try clear c6
          try clear c6b0
          try clear p6
          try clear c7
          try clear c8
          try clear c8b0
          try clear c9
          try clear c9b0
          try clear c11
          try clear c11b0
          try clear c11b1
          try clear hx338_0
          try clear p2
          try clear p338
          try clear q338
          obtain ⟨kq, x38_9, rfl, HA, HJ9, ⟨mc9, rfl⟩⟩ := hcut
          cases kq with
          | zero => exact absurd HA.out (by simp [marquetryref01_ReadVarint.j2])
          | succ kj9 =>
           have H := HA.out
           clear HA
           simp only [marquetryref01_ReadVarint.j2] at H
           by_cases c12 : x38_9 = true
           ·subst c12
            have H1 : (some (0, 0, 110)) = some (r1, r2, r3) := by rw [if_pos rfl] at H; exact H
            clear H
            have H := H1
            clear H1
            simp only [Option.some.injEq, Prod.mk.injEq] at H
            obtain ⟨rfl, rfl, rfl⟩ := H
            go_wp2
            go_ret3
            exact ⟨by first | rfl | (simp; done) | (simp only [← hji7] <;> (first | rfl | simp)) | (simp [*]; done), by repeat (first | exact Drawn0.refl _ | apply Drawn0.step)⟩
           ·replace c12 := Bool.eq_false_iff.mpr c12
            subst c12
            have H1 : (if (rd l0 (ji7)) < 128 then (if (rd l0 (ji7)) = 0 then (if x9_2 > 0 then (some (0, 0, 8)) else (some (IntKind.u64.wrap (x7_2 + (IntKind.u64.wrap ((IntKind.u64.wrap (Int.tmod (rd l0 (ji7)) 128)) * x8_2))), wrap64 ((wrap64 (a1 + x9_2)) + 1), 0))) else (some (IntKind.u64.wrap (x7_2 + (IntKind.u64.wrap ((IntKind.u64.wrap (Int.tmod (rd l0 (ji7)) 128)) * x8_2))), wrap64 ((wrap64 (a1 + x9_2)) + 1), 0))) else (marquetryref01_ReadVarint.l0 kj9 l0 a1 (IntKind.u64.wrap (x7_2 + (IntKind.u64.wrap ((IntKind.u64.wrap (Int.tmod (rd l0 (ji7)) 128)) * x8_2)))) (IntKind.u64.wrap (x8_2 * 128)) (wrap64 (x9_2 + 1)))) = some (r1, r2, r3) := by rw [if_neg (show ¬ (false = true) by decide)] at H; exact H
            clear H
            have H := H1
            clear H1
            by_cases c13 : (rd l0 (ji7)) < 128
            ·rw [if_pos c13] at H
             have c13b0 : decide ((rd l0 (ji7)) < 128) = true := decide_eq_true c13
             clear c13
             by_cases c14 : (rd l0 (ji7)) = 0
             ·rw [if_pos c14] at H
              have c14b0 : ((rd l0 (ji7)) == 0) = true := beq_iff_eq.mpr c14
              have c14b1 : ((rd l0 (ji7)) != 0) = false := bne_eq_false_iff_eq.mpr c14
              clear c14
              by_cases c15 : x9_2 > 0
              ·rw [if_pos c15] at H
               have c15b0 : decide (0 < x9_2) = true := decide_eq_true c15
               clear c15
               simp only [Option.some.injEq, Prod.mk.injEq] at H
               obtain ⟨rfl, rfl, rfl⟩ := H
               go_wp2
               go_ret3
               exact ⟨by first | rfl | (simp; done) | (simp only [← hji7] <;> (first | rfl | simp)) | (simp [*]; done), by repeat (first | exact Drawn0.refl _ | apply Drawn0.step)⟩
              ·rw [if_neg c15] at H
               have c15b0 : decide (0 < x9_2) = false := decide_eq_false c15
               clear c15
               simp only [Option.some.injEq, Prod.mk.injEq] at H
               obtain ⟨rfl, rfl, rfl⟩ := H
               go_wp2
               go_ret3
               exact ⟨by first | rfl | (simp; done) | (simp only [← hji7] <;> (first | rfl | simp)) | (simp [*]; done), by repeat (first | exact Drawn0.refl _ | apply Drawn0.step)⟩
             ·rw [if_neg c14] at H
              have c14b0 : ((rd l0 (ji7)) == 0) = false := beq_eq_false_iff_ne.mpr c14
              have c14b1 : ((rd l0 (ji7)) != 0) = true := bne_iff_ne.mpr c14
              simp only [Option.some.injEq, Prod.mk.injEq] at H
              obtain ⟨rfl, rfl, rfl⟩ := H
              go_wp2
              go_ret3
              exact ⟨by first | rfl | (simp; done) | (simp only [← hji7] <;> (first | rfl | simp)) | (simp [*]; done), by repeat (first | exact Drawn0.refl _ | apply Drawn0.step)⟩
            ·rw [if_neg c13] at H
             have c13b0 : decide ((rd l0 (ji7)) < 128) = false := decide_eq_false c13
             clear c13
             have H' := Aside0.mk H
             clear H
             go_wp2
             go_roundg kj9
             case measure => have := HJ2.out; have := HK2.out; have := HJ9.out; omega
             case rel => exact ⟨(IntKind.u64.wrap (x7_2 + (IntKind.u64.wrap ((IntKind.u64.wrap (Int.tmod (rd l0 (ji7)) 128)) * x8_2)))), (IntKind.u64.wrap (x8_2 * 128)), (wrap64 (x9_2 + 1)), (by first | rfl | (simp; done) | (simp only [← hji7] <;> (first | rfl | simp)) | (simp [*]; done)), (by first | rfl | (simp; done) | (simp [*]; done)), (by first | rfl | (simp; done) | (simp [*]; done)), H', ⟨by have := HJ2.out; have := HK2.out; have := HJ9.out; omega⟩, by repeat (first | exact Drawn0.refl _ | apply Drawn0.step)⟩
        ·rw [if_neg c9] at H
         exact absurd H (by simp)
       ·rw [if_neg c8] at H
        exact absurd H (by simp)
end Go.Proofs.Ytpibhiacmceekaa.X
end

section
namespace Go.Proofs.Ytpibhiacmceekaa.X
open Go.RowKit Go.Proofs.YtpibhiacmceekaaW.PrintWords Go.Proofs.YtpibhiacmceekaaW.PrintLast Go.Proofs.YtpibhiacmceekaaW.PrintMore
attribute [local go_sem] max2_int min2_int max_two min_two max_three min_three max_four min_four
set_option linter.unusedVariables false
set_option linter.unusedSimpArgs false
def marquetryref01_Size.j0 : Nat → Int → Int → Bool → Option (Int × Int)
 | 0, _, _, _ => none
 | k + 1, x0, x1, x15 => if x15 = true then (some (0, 2)) else (if x1 > 1048576 then (some (0, 3)) else (if (wrap64 (Int.tdiv (wrap64 ((wrap64 (x1 * x0)) + 7)) 8)) > 1048576 then (some (0, 3)) else (some (wrap64 (Int.tdiv (wrap64 ((wrap64 (x1 * x0)) + 7)) 8), 0))))
def marquetryref01_Size.f (k : Nat) (a0 : Int) (a1 : Int) : Option (Int × Int) := if a0 < 0 then (marquetryref01_Size.j0 k a0 a1 true) else (if a0 > 64 then (marquetryref01_Size.j0 k a0 a1 true) else (marquetryref01_Size.j0 k a0 a1 (decide (a1 < 0))))
theorem marquetryref01_Size.mono_l : ∀ k, (∀ y0 y1 y2, LeO (marquetryref01_Size.j0 k y0 y1 y2) (marquetryref01_Size.j0 (k + 1) y0 y1 y2))
 | 0 => fun _ _ _ r h => by simp [marquetryref01_Size.j0] at h
 | k + 1 => by
  have ih0 := marquetryref01_Size.mono_l k
  ·intro y0 y1 y2
   unfold marquetryref01_Size.j0
   repeat' first
   | (with_reducible exact ih0 _ _ _)
   | (with_reducible exact LeO.refl _)
   | (with_reducible exact LeO.none _)
   | (with_reducible refine LeO.ite ?_ ?_)
   | (with_reducible refine LeO.bind ?_ (fun _ => ?_))
   | exact ih0 _ _ _
   | exact LeO.none _
   | refine LeO.ite ?_ ?_
   | refine LeO.bind ?_ (fun _ => ?_)
theorem marquetryref01_Size.mono : ∀ a0 a1 k, LeO (marquetryref01_Size.f k a0 a1) (marquetryref01_Size.f (k + 1) a0 a1) := by
 intro a0 a1 k
 have ih0 := marquetryref01_Size.mono_l k
 unfold marquetryref01_Size.f
 repeat' first
   | (with_reducible exact ih0 _ _ _)
   | (with_reducible exact LeO.refl _)
   | (with_reducible exact LeO.none _)
   | (with_reducible refine LeO.ite ?_ ?_)
   | (with_reducible refine LeO.bind ?_ (fun _ => ?_))
   | exact ih0 _ _ _
   | exact LeO.none _
   | refine LeO.ite ?_ ?_
   | refine LeO.bind ?_ (fun _ => ?_)
set_option maxHeartbeats 8000000 in
set_option maxRecDepth 100000 in
theorem marquetryref01_Size.calls (k : Nat) (a0 : Int) (a1 : Int) (r1 : Int) (r2 : Int) (w : World) (h : marquetryref01_Size.f k a0 a1 = some (r1, r2)) :
  Calls Try.prog 70 #[.int .i64 a0, .int .i64 a1] w fun e w' => e = .returned (.tuple #[.int .i64 r1, .int .i64 r2]) ∧ Drawn0 w w' := by
 have H : (if a0 < 0 then (marquetryref01_Size.j0 k a0 a1 true) else (if a0 > 64 then (marquetryref01_Size.j0 k a0 a1 true) else (marquetryref01_Size.j0 k a0 a1 (decide (a1 < 0))))) = some (r1, r2) := h
 clear h
 have HC3 := Aside0.mk H
 clear H
 go_enter Try.func70, Try.ntmps70
 go_upto_region 1 with (fail)
 go_cut [15] (fun v15 wc => ∃ (kq : Nat) (x15_2 : Bool), v15 = .bool x15_2 ∧ Aside0 (marquetryref01_Size.j0 kq a0 a1 x15_2 = some (r1, r2)) ∧ Aside0 (kq ≤ k) ∧ Drawn0 w wc)
 case first =>
  have H := HC3.out
  clear HC3
  by_cases c4 : a0 < 0
  ·rw [if_pos c4] at H
   have c4b0 : decide (a0 < 0) = true := decide_eq_true c4
   clear c4
   (first | rw [c4b0] | (simp only [i64_w, i32_w]; rw [c4b0]) | skip)
   have H' := Aside0.mk H
   clear H
   go_wp2
   go_meet
   case rel => exact ⟨_, (true), (by first | rfl | (simp; done) | (simp [*]; done)), H', ⟨by first | omega | exact Nat.le_refl _⟩, by repeat (first | exact Drawn0.refl _ | apply Drawn0.step)⟩
  ·rw [if_neg c4] at H
   have c4b0 : decide (a0 < 0) = false := decide_eq_false c4
   clear c4
   (first | rw [c4b0] | (simp only [i64_w, i32_w]; rw [c4b0]) | skip)
   by_cases c5 : a0 > 64
   ·rw [if_pos c5] at H
    have c5b0 : decide (64 < a0) = true := decide_eq_true c5
    clear c5
    have H' := Aside0.mk H
    clear H
    go_wp2
    go_meet
    case rel => exact ⟨_, (true), (by first | rfl | (simp; done) | (simp [*]; done)), H', ⟨by first | omega | exact Nat.le_refl _⟩, by repeat (first | exact Drawn0.refl _ | apply Drawn0.step)⟩
   ·rw [if_neg c5] at H
    have c5b0 : decide (64 < a0) = false := decide_eq_false c5
    clear c5
    have H' := Aside0.mk H
    clear H
    go_wp2
    go_meet
    case rel => exact ⟨_, (decide (a1 < 0)), (by first | rfl | (simp; done) | (simp [*]; done)), H', ⟨by first | omega | exact Nat.le_refl _⟩, by repeat (first | exact Drawn0.refl _ | apply Drawn0.step)⟩
 case rest =>
  clear HC3
  try clear p2
  try clear c4
  try clear c4b0
  try clear c5
  try clear c5b0
  obtain ⟨kq, x15_2, rfl, HA, HJ2, ⟨mc2, rfl⟩⟩ := hcut
  cases kq with
  | zero => exact absurd HA.out (by simp [marquetryref01_Size.j0])
  | succ kj2 =>
   have H := HA.out
   clear HA
   simp only [marquetryref01_Size.j0] at H
   by_cases c6 : x15_2 = true
   ·subst c6
    have H1 : (some (0, 2)) = some (r1, r2) := by rw [if_pos rfl] at H; exact H
    clear H
    have H := H1
    clear H1
    simp only [Option.some.injEq, Prod.mk.injEq] at H
    obtain ⟨rfl, rfl⟩ := H
    go_wp2
    go_ret2
    exact ⟨by first | rfl | (simp; done) | (simp [*]; done), by repeat (first | exact Drawn0.refl _ | apply Drawn0.step)⟩
   ·replace c6 := Bool.eq_false_iff.mpr c6
    subst c6
    have H1 : (if a1 > 1048576 then (some (0, 3)) else (if (wrap64 (Int.tdiv (wrap64 ((wrap64 (a1 * a0)) + 7)) 8)) > 1048576 then (some (0, 3)) else (some (wrap64 (Int.tdiv (wrap64 ((wrap64 (a1 * a0)) + 7)) 8), 0)))) = some (r1, r2) := by rw [if_neg (show ¬ (false = true) by decide)] at H; exact H
    clear H
    have H := H1
    clear H1
    by_cases c7 : a1 > 1048576
    ·rw [if_pos c7] at H
     have c7b0 : decide (1048576 < a1) = true := decide_eq_true c7
     clear c7
     simp only [Option.some.injEq, Prod.mk.injEq] at H
     obtain ⟨rfl, rfl⟩ := H
     go_wp2
     go_ret2
     exact ⟨by first | rfl | (simp; done) | (simp [*]; done), by repeat (first | exact Drawn0.refl _ | apply Drawn0.step)⟩
    ·rw [if_neg c7] at H
     have c7b0 : decide (1048576 < a1) = false := decide_eq_false c7
     clear c7
     by_cases c8 : (wrap64 (Int.tdiv (wrap64 ((wrap64 (a1 * a0)) + 7)) 8)) > 1048576
     ·rw [if_pos c8] at H
      have c8b0 : decide (1048576 < (wrap64 (Int.tdiv (wrap64 ((wrap64 (a1 * a0)) + 7)) 8))) = true := decide_eq_true c8
      clear c8
      simp only [Option.some.injEq, Prod.mk.injEq] at H
      obtain ⟨rfl, rfl⟩ := H
      go_wp2
      go_ret2
      exact ⟨by first | rfl | (simp; done) | (simp [*]; done), by repeat (first | exact Drawn0.refl _ | apply Drawn0.step)⟩
     ·rw [if_neg c8] at H
      have c8b0 : decide (1048576 < (wrap64 (Int.tdiv (wrap64 ((wrap64 (a1 * a0)) + 7)) 8))) = false := decide_eq_false c8
      clear c8
      simp only [Option.some.injEq, Prod.mk.injEq] at H
      obtain ⟨rfl, rfl⟩ := H
      go_wp2
      go_ret2
      exact ⟨by first | rfl | (simp; done) | (simp [*]; done), by repeat (first | exact Drawn0.refl _ | apply Drawn0.step)⟩
end Go.Proofs.Ytpibhiacmceekaa.X
end

section
namespace Go.Proofs.Ytpibhiacmceekaa.X
open Go.RowKit Go.Proofs.YtpibhiacmceekaaW.PrintWords Go.Proofs.YtpibhiacmceekaaW.PrintLast Go.Proofs.YtpibhiacmceekaaW.PrintMore
attribute [local go_sem] max2_int min2_int max_two min_two max_three min_three max_four min_four
set_option linter.unusedVariables false
set_option linter.unusedSimpArgs false
def marquetryref01_Bit.l0 : Nat → Int → Int → Int → Option (Int)
 | 0, _, _, _ => none
 | k + 1, x1, x5, x6 => if x6 < (Int.tmod x1 8) then (marquetryref01_Bit.l0 k x1 ((Int.tdiv x5 2) % 256) (wrap64 (x6 + 1))) else (some (IntKind.u64.wrap (Int.tmod x5 2)))
def marquetryref01_Bit.f (k : Nat) (l0 : List Int) (a1 : Int) : Option (Int) := if 0 ≤ (wrap64 (Int.tdiv a1 8)) then (if (wrap64 (Int.tdiv a1 8)) < (l0.length : Int) then (marquetryref01_Bit.l0 k a1 (rd l0 (wrap64 (Int.tdiv a1 8))) 0) else (none)) else (none)
theorem marquetryref01_Bit.mono_l : ∀ k, (∀ y0 y1 y2, LeO (marquetryref01_Bit.l0 k y0 y1 y2) (marquetryref01_Bit.l0 (k + 1) y0 y1 y2))
 | 0 => fun _ _ _ r h => by simp [marquetryref01_Bit.l0] at h
 | k + 1 => by
  have ih0 := marquetryref01_Bit.mono_l k
  ·intro y0 y1 y2
   unfold marquetryref01_Bit.l0
   repeat' first
   | (with_reducible exact ih0 _ _ _)
   | (with_reducible exact LeO.refl _)
   | (with_reducible exact LeO.none _)
   | (with_reducible refine LeO.ite ?_ ?_)
   | (with_reducible refine LeO.bind ?_ (fun _ => ?_))
   | exact ih0 _ _ _
   | exact LeO.none _
   | refine LeO.ite ?_ ?_
   | refine LeO.bind ?_ (fun _ => ?_)
theorem marquetryref01_Bit.mono : ∀ a0 a1 k, LeO (marquetryref01_Bit.f k a0 a1) (marquetryref01_Bit.f (k + 1) a0 a1) := by
 intro a0 a1 k
 have ih0 := marquetryref01_Bit.mono_l k
 unfold marquetryref01_Bit.f
 repeat' first
   | (with_reducible exact ih0 _ _ _)
   | (with_reducible exact LeO.refl _)
   | (with_reducible exact LeO.none _)
   | (with_reducible refine LeO.ite ?_ ?_)
   | (with_reducible refine LeO.bind ?_ (fun _ => ?_))
   | exact ih0 _ _ _
   | exact LeO.none _
   | refine LeO.ite ?_ ?_
   | refine LeO.bind ?_ (fun _ => ?_)
set_option maxHeartbeats 8000000 in
set_option maxRecDepth 100000 in
theorem marquetryref01_Bit.calls (k : Nat) (A0 : Option Addr) (c0 : Nat) (l0 : List Int) (a1 : Int) (r : Int) (w : World) (hr0 : Kd.C (Kd.int .u8) w A0 l0.length l0) (hc0 : l0.length ≤ c0) (h : marquetryref01_Bit.f k l0 a1 = some r) :
  Calls Try.prog 76 #[.slice A0 l0.length c0, .int .i64 a1] w fun e w' => e = .returned (.int .u64 r) ∧ Drawn0 w w' := by
 have HR0 := Aside0.mk hr0
 have HC0 := Aside0.mk hc0
 clear hr0 hc0
 have H : (if 0 ≤ (wrap64 (Int.tdiv a1 8)) then (if (wrap64 (Int.tdiv a1 8)) < (l0.length : Int) then (marquetryref01_Bit.l0 k a1 (rd l0 (wrap64 (Int.tdiv a1 8))) 0) else (none)) else (none)) = some r := h
 clear h
 obtain ⟨ji3, hji3⟩ : ∃ j_ : Int, (wrap64 (Int.tdiv a1 8)) = j_ := ⟨_, rfl⟩
 replace H : (if 0 ≤ (ji3) then (if (ji3) < (l0.length : Int) then (marquetryref01_Bit.l0 k a1 (rd l0 (ji3)) 0) else (none)) else (none)) = some r := by first | (rw [hji3] at H; exact H) | (simp only [hji3] at H ⊢; exact H)
 have hji3w : (IntKind.i64.wrap (Int.tdiv a1 8)) = ji3 := (i64_w _).trans hji3
 by_cases c4 : 0 ≤ (ji3)
 ·rw [if_pos c4] at H
  have c4b0 : decide (0 ≤ (ji3)) = true := decide_eq_true c4
  clear c4
  by_cases c5 : (ji3) < (l0.length : Int)
  ·rw [if_pos c5] at H
   have c5b0 : decide ((ji3) < (l0.length : Int)) = true := decide_eq_true c5
   clear c5
   have H' := Aside0.mk H
   clear H
   have p339 : 0 ≤ ((ji3) : Int) := of_decide_eq_true (by first | (with_reducible assumption) | assumption)
   have q339 : (ji3) < (l0.length : Int) := of_decide_eq_true (by first | (with_reducible assumption) | assumption)
   obtain ⟨ad339, e339, hx339_0⟩ := Kd.at_int HR0.out (ji3) p339 q339
   cases e339
   replace p339 := eq_true p339
   replace q339 := eq_true q339
   go_enter Try.func76, Try.ntmps76
   go_wp2
   go_loopg [5, 6] k (fun kq v5 v6 w' => ∃ (x5_1 : Int) (x6_1 : Int), v5 = .int .u8 x5_1 ∧ v6 = .int .i64 x6_1 ∧ Aside0 (marquetryref01_Bit.l0 kq a1 x5_1 x6_1 = some r) ∧ Aside0 (kq ≤ k) ∧ Drawn0 w w')
   case atStart => exact ⟨(rd l0 (ji3)), (0), (by first | rfl | (simp; done) | (simp only [← hji3] <;> (first | rfl | simp)) | (simp [*]; done)), (by first | rfl | (simp; done) | (simp [*]; done)), H', ⟨Nat.le_refl _⟩, by repeat (first | exact Drawn0.refl _ | apply Drawn0.step)⟩
   case round =>
    clear H'
    try clear p2
    try clear p3
    try clear q3
    try clear hx3
    try clear c4
    try clear c4b0
    try clear c5
    try clear c5b0
    try clear hx339_0
    try clear p339
    try clear q339
    obtain ⟨x5_1, x6_1, rfl, rfl, HA, HK1, ⟨m1, rfl⟩⟩ := hrel
    cases gk with
    | zero => exact absurd HA.out (by simp [marquetryref01_Bit.l0])
    | succ k1 =>
     have H := HA.out
     clear HA
     simp only [marquetryref01_Bit.l0] at H
     by_cases c6 : x6_1 < (Int.tmod a1 8)
     ·rw [if_pos c6] at H
      have c6b0 : decide (x6_1 < (Int.tmod a1 8)) = true := decide_eq_true c6
      clear c6
      have H' := Aside0.mk H
      clear H
      go_wp2
      go_roundg k1
      case measure => have := HK1.out; omega
      case rel => exact ⟨((Int.tdiv x5_1 2) % 256), (wrap64 (x6_1 + 1)), (by first | rfl | (simp; done) | (simp [*]; done)), (by first | rfl | (simp; done) | (simp [*]; done)), H', ⟨by have := HK1.out; omega⟩, by repeat (first | exact Drawn0.refl _ | apply Drawn0.step)⟩
     ·rw [if_neg c6] at H
      have c6b0 : decide (x6_1 < (Int.tmod a1 8)) = false := decide_eq_false c6
      clear c6
      obtain rfl := Option.some.inj H
      go_wp2
      go_ret
      exact ⟨by first | rfl | (simp; done) | (simp only [← hji3] <;> (first | rfl | simp)) | (simp [*]; done), by repeat (first | exact Drawn0.refl _ | apply Drawn0.step)⟩
  ·rw [if_neg c5] at H
   exact absurd H (by simp)
 ·rw [if_neg c4] at H
  exact absurd H (by simp)
end Go.Proofs.Ytpibhiacmceekaa.X
end

section
namespace Go.Proofs.Ytpibhiacmceekaa.X
open Go.RowKit Go.Proofs.YtpibhiacmceekaaW.PrintWords Go.Proofs.YtpibhiacmceekaaW.PrintLast Go.Proofs.YtpibhiacmceekaaW.PrintMore
attribute [local go_sem] max2_int min2_int max_two min_two max_three min_three max_four min_four
set_option linter.unusedVariables false
set_option linter.unusedSimpArgs false
mutual
def marquetryref01_Unpack.l0 : Nat → List Int → Int → Int → Int → Int → Option (List Int × Int)
 | 0, _, _, _, _, _ => none
 | k + 1, x0, x1, x2, x8, x10 => if x10 < (wrap64 (8 * x8)) then ((marquetryref01_Bit.f k x0 x10).bind fun t342 => (if t342 = 0 then (marquetryref01_Unpack.l0 k x0 x1 x2 x8 (wrap64 (x10 + 1))) else (some (([] : List Int), 8)))) else (marquetryref01_Unpack.l1 k x0 x1 x2 ([] : List Int) 0)
def marquetryref01_Unpack.l1 : Nat → List Int → Int → Int → List Int → Int → Option (List Int × Int)
 | 0, _, _, _, _, _ => none
 | k + 1, x0, x1, x2, x11, x12 => if x12 < x2 then (marquetryref01_Unpack.l2 k x0 x1 x2 x11 x12 0 (wrap64 (x1 - 1))) else (some (x11, 0))
def marquetryref01_Unpack.l2 : Nat → List Int → Int → Int → List Int → Int → Int → Int → Option (List Int × Int)
 | 0, _, _, _, _, _, _, _ => none
 | k + 1, x0, x1, x2, x11, x12, x13, x14 => if x14 ≥ 0 then ((marquetryref01_Bit.f k x0 (wrap64 ((wrap64 (x12 * x1)) + x14))).bind fun t343 => (marquetryref01_Unpack.l2 k x0 x1 x2 x11 x12 (IntKind.u64.wrap ((IntKind.u64.wrap (2 * x13)) + t343)) (wrap64 (x14 - 1)))) else (if x11.length < 17592186044416 then (marquetryref01_Unpack.l1 k x0 x1 x2 (x11 ++ [x13]) (wrap64 (x12 + 1))) else (none))
end
def marquetryref01_Unpack.f (k : Nat) (l0 : List Int) (a1 : Int) (a2 : Int) : Option (List Int × Int) := (marquetryref01_Size.f k a1 a2).bind fun bt340 => (if bt340.2 = 0 then (if (l0.length : Int) < bt340.1 then (some (([] : List Int), 6)) else (if (l0.length : Int) > bt340.1 then (some (([] : List Int), 7)) else (marquetryref01_Unpack.l0 k l0 a1 a2 bt340.1 (wrap64 (a2 * a1))))) else (some (([] : List Int), bt340.2)))
theorem marquetryref01_Unpack.mono_l : ∀ k, (∀ y0 y1 y2 y3 y4, LeO (marquetryref01_Unpack.l0 k y0 y1 y2 y3 y4) (marquetryref01_Unpack.l0 (k + 1) y0 y1 y2 y3 y4)) ∧ (∀ y0 y1 y2 y3 y4, LeO (marquetryref01_Unpack.l1 k y0 y1 y2 y3 y4) (marquetryref01_Unpack.l1 (k + 1) y0 y1 y2 y3 y4)) ∧ (∀ y0 y1 y2 y3 y4 y5 y6, LeO (marquetryref01_Unpack.l2 k y0 y1 y2 y3 y4 y5 y6) (marquetryref01_Unpack.l2 (k + 1) y0 y1 y2 y3 y4 y5 y6))
 | 0 => ⟨fun _ _ _ _ _ r h => by simp [marquetryref01_Unpack.l0] at h, fun _ _ _ _ _ r h => by simp [marquetryref01_Unpack.l1] at h, fun _ _ _ _ _ _ _ r h => by simp [marquetryref01_Unpack.l2] at h⟩
 | k + 1 => by
  obtain ⟨ih0, ih1, ih2⟩ := marquetryref01_Unpack.mono_l k
  refine ⟨?_, ?_, ?_⟩
  ·intro y0 y1 y2 y3 y4
   unfold marquetryref01_Unpack.l0
   repeat' first
   | (with_reducible exact ih0 _ _ _ _ _)
   | (with_reducible exact ih1 _ _ _ _ _)
   | (with_reducible exact ih2 _ _ _ _ _ _ _)
   | (with_reducible exact marquetryref01_Bit.mono _ _ _)
   | (with_reducible exact marquetryref01_Size.mono _ _ _)
   | (with_reducible exact LeO.refl _)
   | (with_reducible exact LeO.none _)
   | (with_reducible refine LeO.ite ?_ ?_)
   | (with_reducible refine LeO.bind ?_ (fun _ => ?_))
   | exact ih0 _ _ _ _ _
   | exact ih1 _ _ _ _ _
   | exact ih2 _ _ _ _ _ _ _
   | exact marquetryref01_Bit.mono _ _ _
   | exact marquetryref01_Size.mono _ _ _
   | exact LeO.none _
   | refine LeO.ite ?_ ?_
   | refine LeO.bind ?_ (fun _ => ?_)
  ·intro y0 y1 y2 y3 y4
   unfold marquetryref01_Unpack.l1
   repeat' first
   | (with_reducible exact ih0 _ _ _ _ _)
   | (with_reducible exact ih1 _ _ _ _ _)
   | (with_reducible exact ih2 _ _ _ _ _ _ _)
   | (with_reducible exact marquetryref01_Bit.mono _ _ _)
   | (with_reducible exact marquetryref01_Size.mono _ _ _)
   | (with_reducible exact LeO.refl _)
   | (with_reducible exact LeO.none _)
   | (with_reducible refine LeO.ite ?_ ?_)
   | (with_reducible refine LeO.bind ?_ (fun _ => ?_))
   | exact ih0 _ _ _ _ _
   | exact ih1 _ _ _ _ _
   | exact ih2 _ _ _ _ _ _ _
   | exact marquetryref01_Bit.mono _ _ _
   | exact marquetryref01_Size.mono _ _ _
   | exact LeO.none _
   | refine LeO.ite ?_ ?_
   | refine LeO.bind ?_ (fun _ => ?_)
  ·intro y0 y1 y2 y3 y4 y5 y6
   unfold marquetryref01_Unpack.l2
   repeat' first
   | (with_reducible exact ih0 _ _ _ _ _)
   | (with_reducible exact ih1 _ _ _ _ _)
   | (with_reducible exact ih2 _ _ _ _ _ _ _)
   | (with_reducible exact marquetryref01_Bit.mono _ _ _)
   | (with_reducible exact marquetryref01_Size.mono _ _ _)
   | (with_reducible exact LeO.refl _)
   | (with_reducible exact LeO.none _)
   | (with_reducible refine LeO.ite ?_ ?_)
   | (with_reducible refine LeO.bind ?_ (fun _ => ?_))
   | exact ih0 _ _ _ _ _
   | exact ih1 _ _ _ _ _
   | exact ih2 _ _ _ _ _ _ _
   | exact marquetryref01_Bit.mono _ _ _
   | exact marquetryref01_Size.mono _ _ _
   | exact LeO.none _
   | refine LeO.ite ?_ ?_
   | refine LeO.bind ?_ (fun _ => ?_)
theorem marquetryref01_Unpack.mono : ∀ a0 a1 a2 k, LeO (marquetryref01_Unpack.f k a0 a1 a2) (marquetryref01_Unpack.f (k + 1) a0 a1 a2) := by
 intro a0 a1 a2 k
 obtain ⟨ih0, ih1, ih2⟩ := marquetryref01_Unpack.mono_l k
 unfold marquetryref01_Unpack.f
 repeat' first
   | (with_reducible exact ih0 _ _ _ _ _)
   | (with_reducible exact ih1 _ _ _ _ _)
   | (with_reducible exact ih2 _ _ _ _ _ _ _)
   | (with_reducible exact marquetryref01_Bit.mono _ _ _)
   | (with_reducible exact marquetryref01_Size.mono _ _ _)
   | (with_reducible exact LeO.refl _)
   | (with_reducible exact LeO.none _)
   | (with_reducible refine LeO.ite ?_ ?_)
   | (with_reducible refine LeO.bind ?_ (fun _ => ?_))
   | exact ih0 _ _ _ _ _
   | exact ih1 _ _ _ _ _
   | exact ih2 _ _ _ _ _ _ _
   | exact marquetryref01_Bit.mono _ _ _
   | exact marquetryref01_Size.mono _ _ _
   | exact LeO.none _
   | refine LeO.ite ?_ ?_
   | refine LeO.bind ?_ (fun _ => ?_)
set_option maxHeartbeats 8000000 in
set_option maxRecDepth 100000 in
theorem marquetryref01_Unpack.calls (k : Nat) (A0 : Option Addr) (c0 : Nat) (l0 : List Int) (a1 : Int) (a2 : Int) (r1 : List Int) (r2 : Int) (w : World) (hr0 : Kd.C (Kd.int .u8) w A0 l0.length l0) (hc0 : l0.length ≤ c0) (h : marquetryref01_Unpack.f k l0 a1 a2 = some (r1, r2)) :
  Calls Try.prog 73 #[.slice A0 l0.length c0, .int .i64 a1, .int .i64 a2] w fun e w' => ∃ v0_ : Value, e = .returned (.tuple #[v0_, .int .i64 r2]) ∧ Kd.R (Kd.int .u64) 61 w' w.heap.size (fun _ => True) v0_ r1 ∧ Below w.heap.size w w' := by
 have HR0 := Aside0.mk hr0
 have HC0 := Aside0.mk hc0
 clear hr0 hc0
 have HB := Aside0.mk (Below.refl w.heap.size w)
 have H : ((marquetryref01_Size.f k a1 a2).bind fun bt340 => (if bt340.2 = 0 then (if (l0.length : Int) < bt340.1 then (some (([] : List Int), 6)) else (if (l0.length : Int) > bt340.1 then (some (([] : List Int), 7)) else (marquetryref01_Unpack.l0 k l0 a1 a2 bt340.1 (wrap64 (a2 * a1))))) else (some (([] : List Int), bt340.2)))) = some (r1, r2) := h
 clear h
 replace H := Option.bind_eq_some_iff.mp H
 obtain ⟨⟨t340, t341⟩, A40, H⟩ := H
 replace H : (if t341 = 0 then (if (l0.length : Int) < t340 then (some (([] : List Int), 6)) else (if (l0.length : Int) > t340 then (some (([] : List Int), 7)) else (marquetryref01_Unpack.l0 k l0 a1 a2 t340 (wrap64 (a2 * a1))))) else (some (([] : List Int), t341))) = some (r1, r2) := H
 have A4 := Aside0.mk A40
 clear A40
 by_cases c5 : t341 = 0
 ·rw [if_pos c5] at H
  have c5b0 : (t341 == 0) = true := beq_iff_eq.mpr c5
  have c5b1 : (t341 != 0) = false := bne_eq_false_iff_eq.mpr c5
  clear c5
  by_cases c6 : (l0.length : Int) < t340
  ·rw [if_pos c6] at H
   have c6b0 : decide ((l0.length : Int) < t340) = true := decide_eq_true c6
   clear c6
   simp only [Option.some.injEq, Prod.mk.injEq] at H
   obtain ⟨rfl, rfl⟩ := H
   go_enter Try.func73, Try.ntmps73
   go_wp2_with (first | ((with_reducible refine gate_callee (f := 70) rfl ?_); refine goesL_ (some 18) rfl rfl Try.func70 (by kernel_rfl) rfl #[.int .i64 a1, .int .i64 a2] rfl (by (try simp only [List.map_toArray, List.map_cons, List.map_nil]); first | done | rfl | (simp only [List.length_drop, List.length_take]; rfl)) ?_; (with_reducible refine (marquetryref01_Size.calls k a1 a2 t340 t341 _ A4.out).mono ?_); rintro e w' ⟨rfl, ⟨nd, rfl⟩⟩; refine ⟨_, rfl, ?_⟩))
   go_ret2
   exact ⟨_, by first | rfl | (simp [errW_none, errW_some] <;> rfl) | (simp [*, errW_none, errW_some] <;> rfl), by first | exact Kd.R_nil _ _ _ _ _ | exact Kd.N_nil _ _ _ _ _ | exact Kd.V_nil _ _ _ _ _ | exact Kd.Q_nil _ _ _ _ _ | exact Kd.S_nil _ _ _ _ _, by repeat (first | (with_reducible first | exact HB.out | apply below_alloc | apply pw_below_drewN | apply below_drew1) | exact HB.out)⟩
  ·rw [if_neg c6] at H
   have c6b0 : decide ((l0.length : Int) < t340) = false := decide_eq_false c6
   clear c6
   by_cases c7 : (l0.length : Int) > t340
   ·rw [if_pos c7] at H
    have c7b0 : decide (t340 < (l0.length : Int)) = true := decide_eq_true c7
    clear c7
    simp only [Option.some.injEq, Prod.mk.injEq] at H
    obtain ⟨rfl, rfl⟩ := H
    go_enter Try.func73, Try.ntmps73
    go_wp2_with (first | ((with_reducible refine gate_callee (f := 70) rfl ?_); refine goesL_ (some 18) rfl rfl Try.func70 (by kernel_rfl) rfl #[.int .i64 a1, .int .i64 a2] rfl (by (try simp only [List.map_toArray, List.map_cons, List.map_nil]); first | done | rfl | (simp only [List.length_drop, List.length_take]; rfl)) ?_; (with_reducible refine (marquetryref01_Size.calls k a1 a2 t340 t341 _ A4.out).mono ?_); rintro e w' ⟨rfl, ⟨nd, rfl⟩⟩; refine ⟨_, rfl, ?_⟩))
    go_ret2
    exact ⟨_, by first | rfl | (simp [errW_none, errW_some] <;> rfl) | (simp [*, errW_none, errW_some] <;> rfl), by first | exact Kd.R_nil _ _ _ _ _ | exact Kd.N_nil _ _ _ _ _ | exact Kd.V_nil _ _ _ _ _ | exact Kd.Q_nil _ _ _ _ _ | exact Kd.S_nil _ _ _ _ _, by repeat (first | (with_reducible first | exact HB.out | apply below_alloc | apply pw_below_drewN | apply below_drew1) | exact HB.out)⟩
   ·rw [if_neg c7] at H
    have c7b0 : decide (t340 < (l0.length : Int)) = false := decide_eq_false c7
    clear c7
    have H' := Aside0.mk H
    clear H
    go_enter Try.func73, Try.ntmps73
    go_wp2_with (first | ((with_reducible refine gate_callee (f := 70) rfl ?_); refine goesL_ (some 18) rfl rfl Try.func70 (by kernel_rfl) rfl #[.int .i64 a1, .int .i64 a2] rfl (by (try simp only [List.map_toArray, List.map_cons, List.map_nil]); first | done | rfl | (simp only [List.length_drop, List.length_take]; rfl)) ?_; (with_reducible refine (marquetryref01_Size.calls k a1 a2 t340 t341 _ A4.out).mono ?_); rintro e w' ⟨rfl, ⟨nd, rfl⟩⟩; refine ⟨_, rfl, ?_⟩))
    go_loopg [10] k (fun kq v10 w' => ∃ (x10_1 : Int), v10 = .int .i64 x10_1 ∧ Aside0 (marquetryref01_Unpack.l0 kq l0 a1 a2 t340 x10_1 = some (r1, r2)) ∧ Aside0 (kq ≤ k) ∧ Aside0 (Below w.heap.size w w'))
    case atStart => exact ⟨(wrap64 (a2 * a1)), (by first | rfl | (simp; done) | (simp [*]; done)), H', ⟨Nat.le_refl _⟩, ⟨by repeat (first | (with_reducible first | exact HB.out | apply below_alloc | apply pw_below_drewN | apply below_drew1) | exact HB.out)⟩⟩
    case round =>
     clear H'
     try clear p2
     try clear c5
     try clear c5b0
     try clear c5b1
     try clear c6
     try clear c6b0
     try clear p6
     try clear c7
     try clear c7b0
     obtain ⟨x10_1, rfl, HA, HK1, HB⟩ := hrel
     cases gk with
     | zero => exact absurd HA.out (by simp [marquetryref01_Unpack.l0])
     | succ k1 =>
      have H := HA.out
      clear HA
      simp only [marquetryref01_Unpack.l0] at H
      by_cases c8 : x10_1 < (wrap64 (8 * t340))
      ·rw [if_pos c8] at H
       have c8b0 : decide (x10_1 < (wrap64 (8 * t340))) = true := decide_eq_true c8
       clear c8
       replace H := Option.bind_eq_some_iff.mp H
       obtain ⟨t342, A90, H⟩ := H
       replace H : (if t342 = 0 then (marquetryref01_Unpack.l0 k1 l0 a1 a2 t340 (wrap64 (x10_1 + 1))) else (some (([] : List Int), 8))) = some (r1, r2) := H
       have A9 := Aside0.mk A90
       clear A90
       by_cases c10 : t342 = 0
       ·rw [if_pos c10] at H
        have c10b0 : (t342 == 0) = true := beq_iff_eq.mpr c10
        have c10b1 : (t342 != 0) = false := bne_eq_false_iff_eq.mpr c10
        clear c10
        have H' := Aside0.mk H
        clear H
        go_wp2_with (first | ((with_reducible refine gate_callee (f := 76) rfl ?_); refine goesL_ (some 43) rfl rfl Try.func76 (by kernel_rfl) rfl #[.slice A0 l0.length c0, .int .i64 x10_1] rfl (by (try simp only [List.map_toArray, List.map_cons, List.map_nil]); first | done | rfl | (simp only [List.length_drop, List.length_take]; rfl)) ?_; (with_reducible refine (marquetryref01_Bit.calls k1 _ _ l0 x10_1 t342 _ ?side1 ?side2 A9.out).mono ?_); (case side1 => repeat (first | exact (Kd.C_below HR0.out HB.out) | (with_reducible refine Kd.C_alloc ?_ _) | (with_reducible refine Kd.C_drewN ?_ _) | (with_reducible refine Kd.C_drew ?_))); (case side2 => exact HC0.out); rintro e w' ⟨rfl, ⟨nd, rfl⟩⟩; refine ⟨_, rfl, ?_⟩))
        go_roundg k1
        case measure => have := HK1.out; omega
        case rel => exact ⟨(wrap64 (x10_1 + 1)), (by first | rfl | (simp; done) | (simp [*]; done)), H', ⟨by have := HK1.out; omega⟩, ⟨by repeat (first | (with_reducible first | exact HB.out | apply below_alloc | apply pw_below_drewN | apply below_drew1) | exact HB.out)⟩⟩
       ·rw [if_neg c10] at H
        have c10b0 : (t342 == 0) = false := beq_eq_false_iff_ne.mpr c10
        have c10b1 : (t342 != 0) = true := bne_iff_ne.mpr c10
        simp only [Option.some.injEq, Prod.mk.injEq] at H
        obtain ⟨rfl, rfl⟩ := H
        go_wp2_with (first | ((with_reducible refine gate_callee (f := 76) rfl ?_); refine goesL_ (some 43) rfl rfl Try.func76 (by kernel_rfl) rfl #[.slice A0 l0.length c0, .int .i64 x10_1] rfl (by (try simp only [List.map_toArray, List.map_cons, List.map_nil]); first | done | rfl | (simp only [List.length_drop, List.length_take]; rfl)) ?_; (with_reducible refine (marquetryref01_Bit.calls k1 _ _ l0 x10_1 t342 _ ?side1 ?side2 A9.out).mono ?_); (case side1 => repeat (first | exact (Kd.C_below HR0.out HB.out) | (with_reducible refine Kd.C_alloc ?_ _) | (with_reducible refine Kd.C_drewN ?_ _) | (with_reducible refine Kd.C_drew ?_))); (case side2 => exact HC0.out); rintro e w' ⟨rfl, ⟨nd, rfl⟩⟩; refine ⟨_, rfl, ?_⟩))
        go_ret2
        exact ⟨_, by first | rfl | (simp [errW_none, errW_some] <;> rfl) | (simp [*, errW_none, errW_some] <;> rfl), by first | exact Kd.R_nil _ _ _ _ _ | exact Kd.N_nil _ _ _ _ _ | exact Kd.V_nil _ _ _ _ _ | exact Kd.Q_nil _ _ _ _ _ | exact Kd.S_nil _ _ _ _ _, by repeat (first | (with_reducible first | exact HB.out | apply below_alloc | apply pw_below_drewN | apply below_drew1) | exact HB.out)⟩
      ·rw [if_neg c8] at H
       have c8b0 : decide (x10_1 < (wrap64 (8 * t340))) = false := decide_eq_false c8
       clear c8
       have H' := Aside0.mk H
       clear H
       go_wp2
       go_loopg [11, 12] k1 (fun kq v11 v12 w' => ∃ (x11_2 : List Int) (x12_2 : Int), v12 = .int .i64 x12_2 ∧ Aside0 (marquetryref01_Unpack.l1 kq l0 a1 a2 x11_2 x12_2 = some (r1, r2)) ∧ Aside0 (kq ≤ k1) ∧ Aside0 (Kd.R (Kd.int .u64) 61 w' w.heap.size (fun _ => True) v11 x11_2) ∧ Aside0 (Below w.heap.size w w'))
       case atStart => exact ⟨(([] : List Int)), (0), (by first | rfl | (simp; done) | (simp [*]; done)), H', ⟨Nat.le_refl _⟩, ⟨by first | exact Kd.R_nil _ _ _ _ _ | exact Kd.N_nil _ _ _ _ _ | exact Kd.V_nil _ _ _ _ _ | exact Kd.Q_nil _ _ _ _ _ | exact Kd.S_nil _ _ _ _ _⟩, ⟨by repeat (first | (with_reducible first | exact HB.out | apply below_alloc | apply pw_below_drewN | apply below_drew1) | exact HB.out)⟩⟩
       case round =>
        clear H'
        try clear c1
        try clear p2
        try clear c5
        try clear c5b0
        try clear c5b1
        try clear c6
        try clear c6b0
        try clear p6
        try clear c7
        try clear c7b0
        try clear c8
        try clear c8b0
        try clear c10
        try clear c10b0
        try clear c10b1
        try clear p2
        try clear p6
        obtain ⟨x11_2, x12_2, rfl, HA, HK2, HO_11, HB⟩ := hrel
        cases gk with
        | zero => exact absurd HA.out (by simp [marquetryref01_Unpack.l1])
        | succ k2 =>
         have H := HA.out
         clear HA
         simp only [marquetryref01_Unpack.l1] at H
         by_cases c11 : x12_2 < a2
         ·rw [if_pos c11] at H
          have c11b0 : decide (x12_2 < a2) = true := decide_eq_true c11
          clear c11
          have H' := Aside0.mk H
          clear H
          go_wp2
          go_loopg [13, 14] k2 (fun kq v13 v14 w' => ∃ (x13_3 : Int) (x14_3 : Int), v13 = .int .u64 x13_3 ∧ v14 = .int .i64 x14_3 ∧ Aside0 (marquetryref01_Unpack.l2 kq l0 a1 a2 x11_2 x12_2 x13_3 x14_3 = some (r1, r2)) ∧ Aside0 (kq ≤ k2) ∧ Aside0 (Kd.R (Kd.int .u64) 61 w' w.heap.size (fun _ => True) u11 x11_2) ∧ Aside0 (Below w.heap.size w w'))
          case atStart => exact ⟨(0), (wrap64 (a1 - 1)), (by first | rfl | (simp; done) | (simp [*]; done)), (by first | rfl | (simp; done) | (simp [*]; done)), H', ⟨Nat.le_refl _⟩, ⟨by (with_reducible repeat (first | apply Kd.R_alloc | apply Kd.R_drewN | apply Kd.R_drew)); exact HO_11.out⟩, ⟨by repeat (first | (with_reducible first | exact HB.out | apply below_alloc | apply pw_below_drewN | apply below_drew1) | exact HB.out)⟩⟩
          case round =>
           clear H'
           try clear c1
           try clear p2
           try clear c5
           try clear c5b0
           try clear c5b1
           try clear c6
           try clear c6b0
           try clear p6
           try clear c7
           try clear c7b0
           try clear c8
           try clear c8b0
           try clear c10
           try clear c10b0
           try clear c10b1
           try clear c11
           try clear c11b0
           try clear p2
           try clear p6
           obtain ⟨x13_3, x14_3, rfl, rfl, HA, HK3, HO_11, HB⟩ := hrel
           cases gk with
           | zero => exact absurd HA.out (by simp [marquetryref01_Unpack.l2])
           | succ k3 =>
            have H := HA.out
            clear HA
            simp only [marquetryref01_Unpack.l2] at H
            by_cases c12 : x14_3 ≥ 0
            ·rw [if_pos c12] at H
             have c12b0 : decide (0 ≤ x14_3) = true := decide_eq_true c12
             clear c12
             replace H := Option.bind_eq_some_iff.mp H
             obtain ⟨t343, A130, H⟩ := H
             replace H : (marquetryref01_Unpack.l2 k3 l0 a1 a2 x11_2 x12_2 (IntKind.u64.wrap ((IntKind.u64.wrap (2 * x13_3)) + t343)) (wrap64 (x14_3 - 1))) = some (r1, r2) := H
             have A13 := Aside0.mk A130
             clear A130
             have H' := Aside0.mk H
             clear H
             go_wp2_with (first | ((with_reducible refine gate_callee (f := 76) rfl ?_); refine goesL_ (some 64) rfl rfl Try.func76 (by kernel_rfl) rfl #[.slice A0 l0.length c0, .int .i64 (wrap64 ((wrap64 (x12_2 * a1)) + x14_3))] rfl (by (try simp only [List.map_toArray, List.map_cons, List.map_nil]); first | done | rfl | (simp only [List.length_drop, List.length_take]; rfl)) ?_; (with_reducible refine (marquetryref01_Bit.calls k3 _ _ l0 (wrap64 ((wrap64 (x12_2 * a1)) + x14_3)) t343 _ ?side1 ?side2 A13.out).mono ?_); (case side1 => repeat (first | exact (Kd.C_below HR0.out HB.out) | (with_reducible refine Kd.C_alloc ?_ _) | (with_reducible refine Kd.C_drewN ?_ _) | (with_reducible refine Kd.C_drew ?_))); (case side2 => exact HC0.out); rintro e w' ⟨rfl, ⟨nd, rfl⟩⟩; refine ⟨_, rfl, ?_⟩))
             go_roundg k3
             case measure => have := HK1.out; have := HK2.out; have := HK3.out; omega
             case rel => exact ⟨(IntKind.u64.wrap ((IntKind.u64.wrap (2 * x13_3)) + t343)), (wrap64 (x14_3 - 1)), (by first | rfl | (simp; done) | (simp [*]; done)), (by first | rfl | (simp; done) | (simp [*]; done)), H', ⟨by have := HK1.out; have := HK2.out; have := HK3.out; omega⟩, ⟨by (with_reducible repeat (first | apply Kd.R_alloc | apply Kd.R_drewN | apply Kd.R_drew)); exact HO_11.out⟩, ⟨by repeat (first | (with_reducible first | exact HB.out | apply below_alloc | apply pw_below_drewN | apply below_drew1) | exact HB.out)⟩⟩
            ·rw [if_neg c12] at H
             have c12b0 : decide (0 ≤ x14_3) = false := decide_eq_false c12
             clear c12
             by_cases c14 : x11_2.length < 17592186044416
             ·rw [if_pos c14] at H
              have LMc14 := Aside0.mk c14
              clear c14
              obtain ⟨y344, hy344⟩ : ∃ y_ : List Int, y_ = (x11_2 ++ [x13_3]) := ⟨_, rfl⟩
              replace H : (marquetryref01_Unpack.l1 k3 l0 a1 a2 y344 (wrap64 (x12_2 + 1))) = some (r1, r2) := by first | (rw [hy344]; with_reducible exact H) | (have H2_ := (Option.bind_some _ _).symm.trans H; rw [hy344]; with_reducible exact H2_) | (have H2_ := (Option.bind_some _ _).symm.trans H; with_reducible exact H2_) | with_reducible exact H | (rw [hy344]; exact H) | exact H
              have Ny344 := Aside0.mk hy344
              clear hy344
              have H' := Aside0.mk H
              clear H
              go_wp2_with (first | ((with_reducible refine gate_builtin (b := .append) (xs := #[.tmp 66, .tmp 68]) rfl ?_); at_builtin; refine Kd.R_append (Kd.int .u64) (w0 := w) w.heap.size rfl (.tmp 66) (.tmp 68) 65 61 (.int .u64 0) 8 rfl Try.underlying65 info61 rfl (by decide) (by omega) u11 x11_2 x13_3 [.int .u64 x13_3] (fun _ => True) (fun _ => False) rfl rfl ?aP (fun _ hk => hk.elim) ?aF ?aO ?aB ?aS ?aL ?_; (case aP => exact rfl); (case aB => exact (by repeat (first | (with_reducible first | exact HB.out | apply below_alloc | apply pw_below_drewN | apply below_drew1) | exact HB.out))); (case aF => exact (fun _ _ => trivial)); (case aO => exact (by (with_reducible repeat (first | apply Kd.R_alloc | apply Kd.R_drewN | apply Kd.R_drew)); exact HO_11.out)); (case aS => exact (below_size (by repeat (first | (with_reducible first | exact HB.out | apply below_alloc | apply pw_below_drewN | apply below_drew1) | exact HB.out)))); (case aL => have := LMc14.out; omega); intro v345 w15 ho hb hg hat; rw [← Ny344.out] at ho; have n0_ := Aside0.mk (hb); have n1_ := Aside0.mk (ho); clear HB; clear HO_11; have HB := n0_; have HO346 := n1_; clear n0_ n1_; clear ho hb hg hat))
              go_roundg k3
              case measure => have := HK1.out; have := HK2.out; have := HK3.out; omega
              case rel => exact ⟨(y344), (wrap64 (x12_2 + 1)), (by first | rfl | (simp; done) | (simp [*]; done)), H', ⟨by have := HK1.out; have := HK2.out; have := HK3.out; omega⟩, ⟨by (with_reducible repeat (first | apply Kd.R_alloc | apply Kd.R_drewN | apply Kd.R_drew)); exact HO346.out⟩, ⟨by repeat (first | (with_reducible first | exact HB.out | apply below_alloc | apply pw_below_drewN | apply below_drew1) | exact HB.out)⟩⟩
             ·rw [if_neg c14] at H
              exact absurd H (by simp)
         ·rw [if_neg c11] at H
          have c11b0 : decide (x12_2 < a2) = false := decide_eq_false c11
          clear c11
          simp only [Option.some.injEq, Prod.mk.injEq] at H
          obtain ⟨rfl, rfl⟩ := H
          go_wp2
          go_ret2
          exact ⟨_, by first | rfl | (simp [errW_none, errW_some] <;> rfl) | (simp [*, errW_none, errW_some] <;> rfl), by (with_reducible repeat (first | apply Kd.R_alloc | apply Kd.R_drewN | apply Kd.R_drew)); exact HO_11.out, by repeat (first | (with_reducible first | exact HB.out | apply below_alloc | apply pw_below_drewN | apply below_drew1) | exact HB.out)⟩
 ·rw [if_neg c5] at H
  have c5b0 : (t341 == 0) = false := beq_eq_false_iff_ne.mpr c5
  have c5b1 : (t341 != 0) = true := bne_iff_ne.mpr c5
  simp only [Option.some.injEq, Prod.mk.injEq] at H
  obtain ⟨rfl, rfl⟩ := H
  go_enter Try.func73, Try.ntmps73
  go_wp2_with (first | ((with_reducible refine gate_callee (f := 70) rfl ?_); refine goesL_ (some 18) rfl rfl Try.func70 (by kernel_rfl) rfl #[.int .i64 a1, .int .i64 a2] rfl (by (try simp only [List.map_toArray, List.map_cons, List.map_nil]); first | done | rfl | (simp only [List.length_drop, List.length_take]; rfl)) ?_; (with_reducible refine (marquetryref01_Size.calls k a1 a2 t340 t341 _ A4.out).mono ?_); rintro e w' ⟨rfl, ⟨nd, rfl⟩⟩; refine ⟨_, rfl, ?_⟩))
  go_ret2
  exact ⟨_, by first | rfl | (simp [errW_none, errW_some] <;> rfl) | (simp [*, errW_none, errW_some] <;> rfl), by first | exact Kd.R_nil _ _ _ _ _ | exact Kd.N_nil _ _ _ _ _ | exact Kd.V_nil _ _ _ _ _ | exact Kd.Q_nil _ _ _ _ _ | exact Kd.S_nil _ _ _ _ _, by repeat (first | (with_reducible first | exact HB.out | apply below_alloc | apply pw_below_drewN | apply below_drew1) | exact HB.out)⟩
end Go.Proofs.Ytpibhiacmceekaa.X
end

section
namespace Go.Proofs.Ytpibhiacmceekaa.X
open Go.RowKit Go.Proofs.YtpibhiacmceekaaW.PrintWords Go.Proofs.YtpibhiacmceekaaW.PrintLast Go.Proofs.YtpibhiacmceekaaW.PrintMore
attribute [local go_sem] max2_int min2_int max_two min_two max_three min_three max_four min_four
set_option linter.unusedVariables false
set_option linter.unusedSimpArgs false
mutual
def marquetryref11_Part.j0 : Nat → List Int → Int → Int → Bool → Option (List Int × (List (S110)) × Int × Int)
 | 0, _, _, _, _ => none
 | k + 1, x0, x1, x2, x34 => if x34 = true then (some (([] : List Int), ([] : List (S110)), 0, 2)) else (if (x0.length : Int) > 1048576 then (marquetryref11_Part.j1 k x0 x1 x2 true) else (marquetryref11_Part.j1 k x0 x1 x2 (decide (x2 > 65536))))
def marquetryref11_Part.j1 : Nat → List Int → Int → Int → Bool → Option (List Int × (List (S110)) × Int × Int)
 | 0, _, _, _, _ => none
 | k + 1, x0, x1, x2, x41 => if x41 = true then (some (([] : List Int), ([] : List (S110)), 0, 3)) else (marquetryref11_Part.l0 k x0 x1 x2 ([] : List Int) ([] : List (S110)) 0)
def marquetryref11_Part.l0 : Nat → List Int → Int → Int → List Int → List (S110) → Int → Option (List Int × (List (S110)) × Int × Int)
 | 0, _, _, _, _, _, _ => none
 | k + 1, x0, x1, x2, x10, x11, x12 => if (x10.length : Int) < x2 then ((marquetryref01_ReadVarint.f k x0 x12).bind fun bt347 => (if bt347.2.2 = 0 then (if (IntKind.u64.wrap (Int.tdiv bt347.1 2)) = 0 then (marquetryref11_Part.j3 k x0 x1 x2 x10 x11 bt347.1 bt347.2.1 (IntKind.u64.wrap (wrap64 (x2 - (x10.length : Int)))) (IntKind.u64.wrap (Int.tdiv bt347.1 2)) true) else (if (Int.tmod bt347.1 2) = 0 then (if (IntKind.u64.wrap (Int.tdiv bt347.1 2)) > (IntKind.u64.wrap (wrap64 (x2 - (x10.length : Int)))) then (marquetryref11_Part.j3 k x0 x1 x2 x10 x11 bt347.1 bt347.2.1 (IntKind.u64.wrap (wrap64 (x2 - (x10.length : Int)))) (IntKind.u64.wrap (Int.tdiv bt347.1 2)) true) else (if (Int.tmod bt347.1 2) = 1 then (marquetryref11_Part.j3 k x0 x1 x2 x10 x11 bt347.1 bt347.2.1 (IntKind.u64.wrap (wrap64 (x2 - (x10.length : Int)))) (IntKind.u64.wrap (Int.tdiv bt347.1 2)) (decide ((IntKind.u64.wrap (Int.tdiv bt347.1 2)) > (IntKind.u64.wrap (Int.tdiv (IntKind.u64.wrap ((IntKind.u64.wrap (wrap64 (x2 - (x10.length : Int)))) + 7)) 8))))) else (marquetryref11_Part.j3 k x0 x1 x2 x10 x11 bt347.1 bt347.2.1 (IntKind.u64.wrap (wrap64 (x2 - (x10.length : Int)))) (IntKind.u64.wrap (Int.tdiv bt347.1 2)) false))) else (if (Int.tmod bt347.1 2) = 1 then (marquetryref11_Part.j3 k x0 x1 x2 x10 x11 bt347.1 bt347.2.1 (IntKind.u64.wrap (wrap64 (x2 - (x10.length : Int)))) (IntKind.u64.wrap (Int.tdiv bt347.1 2)) (decide ((IntKind.u64.wrap (Int.tdiv bt347.1 2)) > (IntKind.u64.wrap (Int.tdiv (IntKind.u64.wrap ((IntKind.u64.wrap (wrap64 (x2 - (x10.length : Int)))) + 7)) 8))))) else (marquetryref11_Part.j3 k x0 x1 x2 x10 x11 bt347.1 bt347.2.1 (IntKind.u64.wrap (wrap64 (x2 - (x10.length : Int)))) (IntKind.u64.wrap (Int.tdiv bt347.1 2)) false)))) else (some (([] : List Int), ([] : List (S110)), 0, bt347.2.2)))) else (some (x10, x11, x12, 0))
def marquetryref11_Part.j3 : Nat → List Int → Int → Int → List Int → List (S110) → Int → Int → Int → Int → Bool → Option (List Int × (List (S110)) × Int × Int)
 | 0, _, _, _, _, _, _, _, _, _, _ => none
 | k + 1, x0, x1, x2, x10, x11, x13, x14, x16, x17, x86 => if x86 = true then (some (([] : List Int), ([] : List (S110)), 0, 8)) else (if (Int.tmod x13 2) = 1 then (marquetryref11_Part.j4 k x0 x1 x2 x10 x11 x13 x14 x16 x17 (wrap64 ((wrap64 (x17)) * x1))) else (marquetryref11_Part.j4 k x0 x1 x2 x10 x11 x13 x14 x16 x17 (wrap64 (Int.tdiv (wrap64 (x1 + 7)) 8))))
def marquetryref11_Part.j4 : Nat → List Int → Int → Int → List Int → List (S110) → Int → Int → Int → Int → Int → Option (List Int × (List (S110)) × Int × Int)
 | 0, _, _, _, _, _, _, _, _, _, _ => none
 | k + 1, x0, x1, x2, x10, x11, x13, x14, x16, x17, x18 => if (wrap64 ((x0.length : Int) - x14)) < x18 then (some (([] : List Int), ([] : List (S110)), 0, 6)) else (if (Int.tmod x13 2) = 0 then ((marquetryref01_ReadLittle.f k x0 x14 x18).bind fun bt350 => ((marquetryref01_Width.f k bt350.1).bind fun t352 => (if t352 > x1 then (some (([] : List Int), ([] : List (S110)), 0, 8)) else (marquetryref11_Part.l1 k x0 x1 x2 x10 x11 x14 x17 x18 bt350.1 0)))) else (if 0 ≤ x14 then (if x14 ≤ (wrap64 (x14 + x18)) then (if (wrap64 (x14 + x18)) ≤ (x0.length : Int) then ((marquetryref01_Unpack.f k ((x0.take ((wrap64 (x14 + x18)) : Int).toNat).drop (x14 : Int).toNat) x1 (wrap64 ((wrap64 (x17)) * 8))).bind fun bt360 => (marquetryref11_Part.l2 k x0 x1 x2 x10 x11 x14 x16 x17 x18 bt360.1 0)) else (none)) else (none)) else (none)))
def marquetryref11_Part.l1 : Nat → List Int → Int → Int → List Int → List (S110) → Int → Int → Int → Int → Int → Option (List Int × (List (S110)) × Int × Int)
 | 0, _, _, _, _, _, _, _, _, _, _ => none
 | k + 1, x0, x1, x2, x10, x11, x14, x17, x18, x19, x21 => if x21 < x17 then (if x10.length < 17592186044416 then (marquetryref11_Part.l1 k x0 x1 x2 (x10 ++ [wrap64 (x19)]) x11 x14 x17 x18 x19 (IntKind.u64.wrap (x21 + 1))) else (none)) else (if x11.length < 8796093022208 then (marquetryref11_Part.l0 k x0 x1 x2 x10 (x11 ++ [(⟨false, wrap64 (x17)⟩ : S110)]) (wrap64 (x14 + x18))) else (none))
def marquetryref11_Part.l2 : Nat → List Int → Int → Int → List Int → List (S110) → Int → Int → Int → Int → List Int → Int → Option (List Int × (List (S110)) × Int × Int)
 | 0, _, _, _, _, _, _, _, _, _, _, _ => none
 | k + 1, x0, x1, x2, x10, x11, x14, x16, x17, x18, x22, x24 => if x24 < (x22.length : Int) then (if (IntKind.u64.wrap (x24)) ≥ x16 then (if 0 ≤ x24 then (marquetryref11_Part.j7 k x0 x1 x2 x10 x11 x14 x16 x17 x18 x22 x24 ((rd x22 x24) != 0)) else (none)) else (marquetryref11_Part.j7 k x0 x1 x2 x10 x11 x14 x16 x17 x18 x22 x24 false)) else (if x11.length < 8796093022208 then (marquetryref11_Part.l0 k x0 x1 x2 x10 (x11 ++ [(⟨true, wrap64 (mn x16 (IntKind.u64.wrap (8 * x17)))⟩ : S110)]) (wrap64 (x14 + x18))) else (none))
def marquetryref11_Part.j7 : Nat → List Int → Int → Int → List Int → List (S110) → Int → Int → Int → Int → List Int → Int → Bool → Option (List Int × (List (S110)) × Int × Int)
 | 0, _, _, _, _, _, _, _, _, _, _, _, _ => none
 | k + 1, x0, x1, x2, x10, x11, x14, x16, x17, x18, x22, x24, x163 => if x163 = true then (some (([] : List Int), ([] : List (S110)), 0, 8)) else (if (IntKind.u64.wrap (x24)) < x16 then (if 0 ≤ x24 then (if x24 < (x22.length : Int) then (if x10.length < 17592186044416 then (marquetryref11_Part.l2 k x0 x1 x2 (x10 ++ [wrap64 (rd x22 x24)]) x11 x14 x16 x17 x18 x22 (wrap64 (x24 + 1))) else (none)) else (none)) else (none)) else (marquetryref11_Part.l2 k x0 x1 x2 x10 x11 x14 x16 x17 x18 x22 (wrap64 (x24 + 1))))
end
def marquetryref11_Part.f (k : Nat) (l0 : List Int) (a1 : Int) (a2 : Int) : Option (List Int × (List (S110)) × Int × Int) := if a1 < 0 then (marquetryref11_Part.j0 k l0 a1 a2 true) else (if a1 > 32 then (marquetryref11_Part.j0 k l0 a1 a2 true) else (marquetryref11_Part.j0 k l0 a1 a2 (decide (a2 < 0))))
theorem marquetryref11_Part.mono_l : ∀ k, (∀ y0 y1 y2 y3, LeO (marquetryref11_Part.j0 k y0 y1 y2 y3) (marquetryref11_Part.j0 (k + 1) y0 y1 y2 y3)) ∧ (∀ y0 y1 y2 y3, LeO (marquetryref11_Part.j1 k y0 y1 y2 y3) (marquetryref11_Part.j1 (k + 1) y0 y1 y2 y3)) ∧ (∀ y0 y1 y2 y3 y4 y5, LeO (marquetryref11_Part.l0 k y0 y1 y2 y3 y4 y5) (marquetryref11_Part.l0 (k + 1) y0 y1 y2 y3 y4 y5)) ∧ (∀ y0 y1 y2 y3 y4 y5 y6 y7 y8 y9, LeO (marquetryref11_Part.j3 k y0 y1 y2 y3 y4 y5 y6 y7 y8 y9) (marquetryref11_Part.j3 (k + 1) y0 y1 y2 y3 y4 y5 y6 y7 y8 y9)) ∧ (∀ y0 y1 y2 y3 y4 y5 y6 y7 y8 y9, LeO (marquetryref11_Part.j4 k y0 y1 y2 y3 y4 y5 y6 y7 y8 y9) (marquetryref11_Part.j4 (k + 1) y0 y1 y2 y3 y4 y5 y6 y7 y8 y9)) ∧ (∀ y0 y1 y2 y3 y4 y5 y6 y7 y8 y9, LeO (marquetryref11_Part.l1 k y0 y1 y2 y3 y4 y5 y6 y7 y8 y9) (marquetryref11_Part.l1 (k + 1) y0 y1 y2 y3 y4 y5 y6 y7 y8 y9)) ∧ (∀ y0 y1 y2 y3 y4 y5 y6 y7 y8 y9 y10, LeO (marquetryref11_Part.l2 k y0 y1 y2 y3 y4 y5 y6 y7 y8 y9 y10) (marquetryref11_Part.l2 (k + 1) y0 y1 y2 y3 y4 y5 y6 y7 y8 y9 y10)) ∧ (∀ y0 y1 y2 y3 y4 y5 y6 y7 y8 y9 y10 y11, LeO (marquetryref11_Part.j7 k y0 y1 y2 y3 y4 y5 y6 y7 y8 y9 y10 y11) (marquetryref11_Part.j7 (k + 1) y0 y1 y2 y3 y4 y5 y6 y7 y8 y9 y10 y11))
 | 0 => ⟨fun _ _ _ _ r h => by simp [marquetryref11_Part.j0] at h, fun _ _ _ _ r h => by simp [marquetryref11_Part.j1] at h, fun _ _ _ _ _ _ r h => by simp [marquetryref11_Part.l0] at h, fun _ _ _ _ _ _ _ _ _ _ r h => by simp [marquetryref11_Part.j3] at h, fun _ _ _ _ _ _ _ _ _ _ r h => by simp [marquetryref11_Part.j4] at h, fun _ _ _ _ _ _ _ _ _ _ r h => by simp [marquetryref11_Part.l1] at h, fun _ _ _ _ _ _ _ _ _ _ _ r h => by simp [marquetryref11_Part.l2] at h, fun _ _ _ _ _ _ _ _ _ _ _ _ r h => by simp [marquetryref11_Part.j7] at h⟩
 | k + 1 => by
  obtain ⟨ih0, ih1, ih2, ih3, ih4, ih5, ih6, ih7⟩ := marquetryref11_Part.mono_l k
  refine ⟨?_, ?_, ?_, ?_, ?_, ?_, ?_, ?_⟩
  ·intro y0 y1 y2 y3
   unfold marquetryref11_Part.j0
   repeat' first
   | (with_reducible exact ih0 _ _ _ _)
   | (with_reducible exact ih1 _ _ _ _)
   | (with_reducible exact ih2 _ _ _ _ _ _)
   | (with_reducible exact ih3 _ _ _ _ _ _ _ _ _ _)
   | (with_reducible exact ih4 _ _ _ _ _ _ _ _ _ _)
   | (with_reducible exact ih5 _ _ _ _ _ _ _ _ _ _)
   | (with_reducible exact ih6 _ _ _ _ _ _ _ _ _ _ _)
   | (with_reducible exact ih7 _ _ _ _ _ _ _ _ _ _ _ _)
   | (with_reducible exact marquetryref01_ReadLittle.mono _ _ _ _)
   | (with_reducible exact marquetryref01_ReadVarint.mono _ _ _)
   | (with_reducible exact marquetryref01_Unpack.mono _ _ _ _)
   | (with_reducible exact marquetryref01_Width.mono _ _)
   | (with_reducible exact LeO.refl _)
   | (with_reducible exact LeO.none _)
   | (with_reducible refine LeO.ite ?_ ?_)
   | (with_reducible refine LeO.bind ?_ (fun _ => ?_))
   | exact ih0 _ _ _ _
   | exact ih1 _ _ _ _
   | exact ih2 _ _ _ _ _ _
   | exact ih3 _ _ _ _ _ _ _ _ _ _
   | exact ih4 _ _ _ _ _ _ _ _ _ _
   | exact ih5 _ _ _ _ _ _ _ _ _ _
   | exact ih6 _ _ _ _ _ _ _ _ _ _ _
   | exact ih7 _ _ _ _ _ _ _ _ _ _ _ _
   | exact marquetryref01_ReadLittle.mono _ _ _ _
   | exact marquetryref01_ReadVarint.mono _ _ _
   | exact marquetryref01_Unpack.mono _ _ _ _
   | exact marquetryref01_Width.mono _ _
   | exact LeO.none _
   | refine LeO.ite ?_ ?_
   | refine LeO.bind ?_ (fun _ => ?_)
  ·intro y0 y1 y2 y3
   unfold marquetryref11_Part.j1
   repeat' first
   | (with_reducible exact ih0 _ _ _ _)
   | (with_reducible exact ih1 _ _ _ _)
   | (with_reducible exact ih2 _ _ _ _ _ _)
   | (with_reducible exact ih3 _ _ _ _ _ _ _ _ _ _)
   | (with_reducible exact ih4 _ _ _ _ _ _ _ _ _ _)
   | (with_reducible exact ih5 _ _ _ _ _ _ _ _ _ _)
   | (with_reducible exact ih6 _ _ _ _ _ _ _ _ _ _ _)
   | (with_reducible exact ih7 _ _ _ _ _ _ _ _ _ _ _ _)
   | (with_reducible exact marquetryref01_ReadLittle.mono _ _ _ _)
   | (with_reducible exact marquetryref01_ReadVarint.mono _ _ _)
   | (with_reducible exact marquetryref01_Unpack.mono _ _ _ _)
   | (with_reducible exact marquetryref01_Width.mono _ _)
   | (with_reducible exact LeO.refl _)
   | (with_reducible exact LeO.none _)
   | (with_reducible refine LeO.ite ?_ ?_)
   | (with_reducible refine LeO.bind ?_ (fun _ => ?_))
   | exact ih0 _ _ _ _
   | exact ih1 _ _ _ _
   | exact ih2 _ _ _ _ _ _
   | exact ih3 _ _ _ _ _ _ _ _ _ _
   | exact ih4 _ _ _ _ _ _ _ _ _ _
   | exact ih5 _ _ _ _ _ _ _ _ _ _
   | exact ih6 _ _ _ _ _ _ _ _ _ _ _
   | exact ih7 _ _ _ _ _ _ _ _ _ _ _ _
   | exact marquetryref01_ReadLittle.mono _ _ _ _
   | exact marquetryref01_ReadVarint.mono _ _ _
   | exact marquetryref01_Unpack.mono _ _ _ _
   | exact marquetryref01_Width.mono _ _
   | exact LeO.none _
   | refine LeO.ite ?_ ?_
   | refine LeO.bind ?_ (fun _ => ?_)
  ·intro y0 y1 y2 y3 y4 y5
   unfold marquetryref11_Part.l0
   repeat' first
   | (with_reducible exact ih0 _ _ _ _)
   | (with_reducible exact ih1 _ _ _ _)
   | (with_reducible exact ih2 _ _ _ _ _ _)
   | (with_reducible exact ih3 _ _ _ _ _ _ _ _ _ _)
   | (with_reducible exact ih4 _ _ _ _ _ _ _ _ _ _)
   | (with_reducible exact ih5 _ _ _ _ _ _ _ _ _ _)
   | (with_reducible exact ih6 _ _ _ _ _ _ _ _ _ _ _)
   | (with_reducible exact ih7 _ _ _ _ _ _ _ _ _ _ _ _)
   | (with_reducible exact marquetryref01_ReadLittle.mono _ _ _ _)
   | (with_reducible exact marquetryref01_ReadVarint.mono _ _ _)
   | (with_reducible exact marquetryref01_Unpack.mono _ _ _ _)
   | (with_reducible exact marquetryref01_Width.mono _ _)
   | (with_reducible exact LeO.refl _)
   | (with_reducible exact LeO.none _)
   | (with_reducible refine LeO.ite ?_ ?_)
   | (with_reducible refine LeO.bind ?_ (fun _ => ?_))
   | exact ih0 _ _ _ _
   | exact ih1 _ _ _ _
   | exact ih2 _ _ _ _ _ _
   | exact ih3 _ _ _ _ _ _ _ _ _ _
   | exact ih4 _ _ _ _ _ _ _ _ _ _
   | exact ih5 _ _ _ _ _ _ _ _ _ _
   | exact ih6 _ _ _ _ _ _ _ _ _ _ _
   | exact ih7 _ _ _ _ _ _ _ _ _ _ _ _
   | exact marquetryref01_ReadLittle.mono _ _ _ _
   | exact marquetryref01_ReadVarint.mono _ _ _
   | exact marquetryref01_Unpack.mono _ _ _ _
   | exact marquetryref01_Width.mono _ _
   | exact LeO.none _
   | refine LeO.ite ?_ ?_
   | refine LeO.bind ?_ (fun _ => ?_)
  ·intro y0 y1 y2 y3 y4 y5 y6 y7 y8 y9
   unfold marquetryref11_Part.j3
   repeat' first
   | (with_reducible exact ih0 _ _ _ _)
   | (with_reducible exact ih1 _ _ _ _)
   | (with_reducible exact ih2 _ _ _ _ _ _)
   | (with_reducible exact ih3 _ _ _ _ _ _ _ _ _ _)
   | (with_reducible exact ih4 _ _ _ _ _ _ _ _ _ _)
   | (with_reducible exact ih5 _ _ _ _ _ _ _ _ _ _)
   | (with_reducible exact ih6 _ _ _ _ _ _ _ _ _ _ _)
   | (with_reducible exact ih7 _ _ _ _ _ _ _ _ _ _ _ _)
   | (with_reducible exact marquetryref01_ReadLittle.mono _ _ _ _)
   | (with_reducible exact marquetryref01_ReadVarint.mono _ _ _)
   | (with_reducible exact marquetryref01_Unpack.mono _ _ _ _)
   | (with_reducible exact marquetryref01_Width.mono _ _)
   | (with_reducible exact LeO.refl _)
   | (with_reducible exact LeO.none _)
   | (with_reducible refine LeO.ite ?_ ?_)
   | (with_reducible refine LeO.bind ?_ (fun _ => ?_))
   | exact ih0 _ _ _ _
   | exact ih1 _ _ _ _
   | exact ih2 _ _ _ _ _ _
   | exact ih3 _ _ _ _ _ _ _ _ _ _
   | exact ih4 _ _ _ _ _ _ _ _ _ _
   | exact ih5 _ _ _ _ _ _ _ _ _ _
   | exact ih6 _ _ _ _ _ _ _ _ _ _ _
   | exact ih7 _ _ _ _ _ _ _ _ _ _ _ _
   | exact marquetryref01_ReadLittle.mono _ _ _ _
   | exact marquetryref01_ReadVarint.mono _ _ _
   | exact marquetryref01_Unpack.mono _ _ _ _
   | exact marquetryref01_Width.mono _ _
   | exact LeO.none _
   | refine LeO.ite ?_ ?_
   | refine LeO.bind ?_ (fun _ => ?_)
  ·intro y0 y1 y2 y3 y4 y5 y6 y7 y8 y9
   unfold marquetryref11_Part.j4
   repeat' first
   | (with_reducible exact ih0 _ _ _ _)
   | (with_reducible exact ih1 _ _ _ _)
   | (with_reducible exact ih2 _ _ _ _ _ _)
   | (with_reducible exact ih3 _ _ _ _ _ _ _ _ _ _)
   | (with_reducible exact ih4 _ _ _ _ _ _ _ _ _ _)
   | (with_reducible exact ih5 _ _ _ _ _ _ _ _ _ _)
   | (with_reducible exact ih6 _ _ _ _ _ _ _ _ _ _ _)
   | (with_reducible exact ih7 _ _ _ _ _ _ _ _ _ _ _ _)
   | (with_reducible exact marquetryref01_ReadLittle.mono _ _ _ _)
   | (with_reducible exact marquetryref01_ReadVarint.mono _ _ _)
   | (with_reducible exact marquetryref01_Unpack.mono _ _ _ _)
   | (with_reducible exact marquetryref01_Width.mono _ _)
   | (with_reducible exact LeO.refl _)
   | (with_reducible exact LeO.none _)
   | (with_reducible refine LeO.ite ?_ ?_)
   | (with_reducible refine LeO.bind ?_ (fun _ => ?_))
   | exact ih0 _ _ _ _
   | exact ih1 _ _ _ _
   | exact ih2 _ _ _ _ _ _
   | exact ih3 _ _ _ _ _ _ _ _ _ _
   | exact ih4 _ _ _ _ _ _ _ _ _ _
   | exact ih5 _ _ _ _ _ _ _ _ _ _
   | exact ih6 _ _ _ _ _ _ _ _ _ _ _
   | exact ih7 _ _ _ _ _ _ _ _ _ _ _ _
   | exact marquetryref01_ReadLittle.mono _ _ _ _
   | exact marquetryref01_ReadVarint.mono _ _ _
   | exact marquetryref01_Unpack.mono _ _ _ _
   | exact marquetryref01_Width.mono _ _
   | exact LeO.none _
   | refine LeO.ite ?_ ?_
   | refine LeO.bind ?_ (fun _ => ?_)
  ·intro y0 y1 y2 y3 y4 y5 y6 y7 y8 y9
   unfold marquetryref11_Part.l1
   repeat' first
   | (with_reducible exact ih0 _ _ _ _)
   | (with_reducible exact ih1 _ _ _ _)
   | (with_reducible exact ih2 _ _ _ _ _ _)
   | (with_reducible exact ih3 _ _ _ _ _ _ _ _ _ _)
   | (with_reducible exact ih4 _ _ _ _ _ _ _ _ _ _)
   | (with_reducible exact ih5 _ _ _ _ _ _ _ _ _ _)
   | (with_reducible exact ih6 _ _ _ _ _ _ _ _ _ _ _)
   | (with_reducible exact ih7 _ _ _ _ _ _ _ _ _ _ _ _)
   | (with_reducible exact marquetryref01_ReadLittle.mono _ _ _ _)
   | (with_reducible exact marquetryref01_ReadVarint.mono _ _ _)
   | (with_reducible exact marquetryref01_Unpack.mono _ _ _ _)
   | (with_reducible exact marquetryref01_Width.mono _ _)
   | (with_reducible exact LeO.refl _)
   | (with_reducible exact LeO.none _)
   | (with_reducible refine LeO.ite ?_ ?_)
   | (with_reducible refine LeO.bind ?_ (fun _ => ?_))
   | exact ih0 _ _ _ _
   | exact ih1 _ _ _ _
   | exact ih2 _ _ _ _ _ _
   | exact ih3 _ _ _ _ _ _ _ _ _ _
   | exact ih4 _ _ _ _ _ _ _ _ _ _
   | exact ih5 _ _ _ _ _ _ _ _ _ _
   | exact ih6 _ _ _ _ _ _ _ _ _ _ _
   | exact ih7 _ _ _ _ _ _ _ _ _ _ _ _
   | exact marquetryref01_ReadLittle.mono _ _ _ _
   | exact marquetryref01_ReadVarint.mono _ _ _
   | exact marquetryref01_Unpack.mono _ _ _ _
   | exact marquetryref01_Width.mono _ _
   | exact LeO.none _
   | refine LeO.ite ?_ ?_
   | refine LeO.bind ?_ (fun _ => ?_)
  ·intro y0 y1 y2 y3 y4 y5 y6 y7 y8 y9 y10
   unfold marquetryref11_Part.l2
   repeat' first
   | (with_reducible exact ih0 _ _ _ _)
   | (with_reducible exact ih1 _ _ _ _)
   | (with_reducible exact ih2 _ _ _ _ _ _)
   | (with_reducible exact ih3 _ _ _ _ _ _ _ _ _ _)
   | (with_reducible exact ih4 _ _ _ _ _ _ _ _ _ _)
   | (with_reducible exact ih5 _ _ _ _ _ _ _ _ _ _)
   | (with_reducible exact ih6 _ _ _ _ _ _ _ _ _ _ _)
   | (with_reducible exact ih7 _ _ _ _ _ _ _ _ _ _ _ _)
   | (with_reducible exact marquetryref01_ReadLittle.mono _ _ _ _)
   | (with_reducible exact marquetryref01_ReadVarint.mono _ _ _)
   | (with_reducible exact marquetryref01_Unpack.mono _ _ _ _)
   | (with_reducible exact marquetryref01_Width.mono _ _)
   | (with_reducible exact LeO.refl _)
   | (with_reducible exact LeO.none _)
   | (with_reducible refine LeO.ite ?_ ?_)
   | (with_reducible refine LeO.bind ?_ (fun _ => ?_))
   | exact ih0 _ _ _ _
   | exact ih1 _ _ _ _
   | exact ih2 _ _ _ _ _ _
   | exact ih3 _ _ _ _ _ _ _ _ _ _
   | exact ih4 _ _ _ _ _ _ _ _ _ _
   | exact ih5 _ _ _ _ _ _ _ _ _ _
   | exact ih6 _ _ _ _ _ _ _ _ _ _ _
   | exact ih7 _ _ _ _ _ _ _ _ _ _ _ _
   | exact marquetryref01_ReadLittle.mono _ _ _ _
   | exact marquetryref01_ReadVarint.mono _ _ _
   | exact marquetryref01_Unpack.mono _ _ _ _
   | exact marquetryref01_Width.mono _ _
   | exact LeO.none _
   | refine LeO.ite ?_ ?_
   | refine LeO.bind ?_ (fun _ => ?_)
  ·intro y0 y1 y2 y3 y4 y5 y6 y7 y8 y9 y10 y11
   unfold marquetryref11_Part.j7
   repeat' first
   | (with_reducible exact ih0 _ _ _ _)
   | (with_reducible exact ih1 _ _ _ _)
   | (with_reducible exact ih2 _ _ _ _ _ _)
   | (with_reducible exact ih3 _ _ _ _ _ _ _ _ _ _)
   | (with_reducible exact ih4 _ _ _ _ _ _ _ _ _ _)
   | (with_reducible exact ih5 _ _ _ _ _ _ _ _ _ _)
   | (with_reducible exact ih6 _ _ _ _ _ _ _ _ _ _ _)
   | (with_reducible exact ih7 _ _ _ _ _ _ _ _ _ _ _ _)
   | (with_reducible exact marquetryref01_ReadLittle.mono _ _ _ _)
   | (with_reducible exact marquetryref01_ReadVarint.mono _ _ _)
   | (with_reducible exact marquetryref01_Unpack.mono _ _ _ _)
   | (with_reducible exact marquetryref01_Width.mono _ _)
   | (with_reducible exact LeO.refl _)
   | (with_reducible exact LeO.none _)
   | (with_reducible refine LeO.ite ?_ ?_)
   | (with_reducible refine LeO.bind ?_ (fun _ => ?_))
   | exact ih0 _ _ _ _
   | exact ih1 _ _ _ _
   | exact ih2 _ _ _ _ _ _
   | exact ih3 _ _ _ _ _ _ _ _ _ _
   | exact ih4 _ _ _ _ _ _ _ _ _ _
   | exact ih5 _ _ _ _ _ _ _ _ _ _
   | exact ih6 _ _ _ _ _ _ _ _ _ _ _
   | exact ih7 _ _ _ _ _ _ _ _ _ _ _ _
   | exact marquetryref01_ReadLittle.mono _ _ _ _
   | exact marquetryref01_ReadVarint.mono _ _ _
   | exact marquetryref01_Unpack.mono _ _ _ _
   | exact marquetryref01_Width.mono _ _
   | exact LeO.none _
   | refine LeO.ite ?_ ?_
   | refine LeO.bind ?_ (fun _ => ?_)
theorem marquetryref11_Part.mono : ∀ a0 a1 a2 k, LeO (marquetryref11_Part.f k a0 a1 a2) (marquetryref11_Part.f (k + 1) a0 a1 a2) := by
 intro a0 a1 a2 k
 obtain ⟨ih0, ih1, ih2, ih3, ih4, ih5, ih6, ih7⟩ := marquetryref11_Part.mono_l k
 unfold marquetryref11_Part.f
 repeat' first
   | (with_reducible exact ih0 _ _ _ _)
   | (with_reducible exact ih1 _ _ _ _)
   | (with_reducible exact ih2 _ _ _ _ _ _)
   | (with_reducible exact ih3 _ _ _ _ _ _ _ _ _ _)
   | (with_reducible exact ih4 _ _ _ _ _ _ _ _ _ _)
   | (with_reducible exact ih5 _ _ _ _ _ _ _ _ _ _)
   | (with_reducible exact ih6 _ _ _ _ _ _ _ _ _ _ _)
   | (with_reducible exact ih7 _ _ _ _ _ _ _ _ _ _ _ _)
   | (with_reducible exact marquetryref01_ReadLittle.mono _ _ _ _)
   | (with_reducible exact marquetryref01_ReadVarint.mono _ _ _)
   | (with_reducible exact marquetryref01_Unpack.mono _ _ _ _)
   | (with_reducible exact marquetryref01_Width.mono _ _)
   | (with_reducible exact LeO.refl _)
   | (with_reducible exact LeO.none _)
   | (with_reducible refine LeO.ite ?_ ?_)
   | (with_reducible refine LeO.bind ?_ (fun _ => ?_))
   | exact ih0 _ _ _ _
   | exact ih1 _ _ _ _
   | exact ih2 _ _ _ _ _ _
   | exact ih3 _ _ _ _ _ _ _ _ _ _
   | exact ih4 _ _ _ _ _ _ _ _ _ _
   | exact ih5 _ _ _ _ _ _ _ _ _ _
   | exact ih6 _ _ _ _ _ _ _ _ _ _ _
   | exact ih7 _ _ _ _ _ _ _ _ _ _ _ _
   | exact marquetryref01_ReadLittle.mono _ _ _ _
   | exact marquetryref01_ReadVarint.mono _ _ _
   | exact marquetryref01_Unpack.mono _ _ _ _
   | exact marquetryref01_Width.mono _ _
   | exact LeO.none _
   | refine LeO.ite ?_ ?_
   | refine LeO.bind ?_ (fun _ => ?_)
set_option maxHeartbeats 8000000 in
set_option maxRecDepth 100000 in
theorem marquetryref11_Part.calls (k : Nat) (A0 : Option Addr) (c0 : Nat) (l0 : List Int) (a1 : Int) (a2 : Int) (r1 : List Int) (r2 : List (S110)) (r3 : Int) (r4 : Int) (w : World) (hr0 : Kd.C (Kd.int .u8) w A0 l0.length l0) (hc0 : l0.length ≤ c0) (h : marquetryref11_Part.f k l0 a1 a2 = some (r1, r2, r3, r4)) :
  Calls Try.prog 62 #[.slice A0 l0.length c0, .int .i64 a1, .int .i64 a2] w fun e w' => ∃ v0_ v1_ : Value, e = .returned (.tuple #[v0_, v1_, .int .i64 r3, .int .i64 r4]) ∧ Kd.R (Kd.int .i64) 3 w' w.heap.size (fun _ => True) v0_ r1 ∧ Kd.R k110 110 w' w.heap.size (fun _ => True) v1_ r2 ∧ Below w.heap.size w w' := by
 have hu110 := Try.underlying110
 have HR0 := Aside0.mk hr0
 have HC0 := Aside0.mk hc0
 clear hr0 hc0
 have HB := Aside0.mk (Below.refl w.heap.size w)
 have H : (if a1 < 0 then (marquetryref11_Part.j0 k l0 a1 a2 true) else (if a1 > 32 then (marquetryref11_Part.j0 k l0 a1 a2 true) else (marquetryref11_Part.j0 k l0 a1 a2 (decide (a2 < 0))))) = some (r1, r2, r3, r4) := h
 clear h
 have HC4 := Aside0.mk H
 clear H
 go_enter Try.func62, Try.ntmps62
 go_upto_region 1 with (fail)
 go_cut [34] (fun v34 wc => ∃ (kq : Nat) (x34_3 : Bool), v34 = .bool x34_3 ∧ Aside0 (marquetryref11_Part.j0 kq l0 a1 a2 x34_3 = some (r1, r2, r3, r4)) ∧ Aside0 (kq ≤ k) ∧ Aside0 (Below w.heap.size w wc))
 case first =>
  have H := HC4.out
  clear HC4
  by_cases c5 : a1 < 0
  ·rw [if_pos c5] at H
   have c5b0 : decide (a1 < 0) = true := decide_eq_true c5
   clear c5
   (first | rw [c5b0] | (simp only [i64_w, i32_w]; rw [c5b0]) | skip)
   have H' := Aside0.mk H
   clear H
   go_wp2
   go_meet
   case rel => exact ⟨_, (true), (by first | rfl | (simp; done) | (simp [*]; done)), H', ⟨by first | omega | exact Nat.le_refl _⟩, ⟨by repeat (first | (with_reducible first | exact HB.out | apply below_alloc | apply pw_below_drewN | apply below_drew1) | exact HB.out)⟩⟩
  ·rw [if_neg c5] at H
   have c5b0 : decide (a1 < 0) = false := decide_eq_false c5
   clear c5
   (first | rw [c5b0] | (simp only [i64_w, i32_w]; rw [c5b0]) | skip)
   by_cases c6 : a1 > 32
   ·rw [if_pos c6] at H
    have c6b0 : decide (32 < a1) = true := decide_eq_true c6
    clear c6
    have H' := Aside0.mk H
    clear H
    go_wp2
    go_meet
    case rel => exact ⟨_, (true), (by first | rfl | (simp; done) | (simp [*]; done)), H', ⟨by first | omega | exact Nat.le_refl _⟩, ⟨by repeat (first | (with_reducible first | exact HB.out | apply below_alloc | apply pw_below_drewN | apply below_drew1) | exact HB.out)⟩⟩
   ·rw [if_neg c6] at H
    have c6b0 : decide (32 < a1) = false := decide_eq_false c6
    clear c6
    have H' := Aside0.mk H
    clear H
    go_wp2
    go_meet
    case rel => exact ⟨_, (decide (a2 < 0)), (by first | rfl | (simp; done) | (simp [*]; done)), H', ⟨by first | omega | exact Nat.le_refl _⟩, ⟨by repeat (first | (with_reducible first | exact HB.out | apply below_alloc | apply pw_below_drewN | apply below_drew1) | exact HB.out)⟩⟩
 case rest =>
  as_aux_lemma =>
  clear HC4
  try clear p2
  try clear c5
  try clear c5b0
  try clear c6
  try clear c6b0
  obtain ⟨kq, x34_3, rfl, HA, HJ3, HB⟩ := hcut
  cases kq with
  | zero => exact absurd HA.out (by simp [marquetryref11_Part.j0])
  | succ kj3 =>
   have H := HA.out
   clear HA
   simp only [marquetryref11_Part.j0] at H
   by_cases c7 : x34_3 = true
   ·subst c7
    have H1 : (some (([] : List Int), ([] : List (S110)), 0, 2)) = some (r1, r2, r3, r4) := by rw [if_pos rfl] at H; exact H
    clear H
    have H := H1
    clear H1
    simp only [Option.some.injEq, Prod.mk.injEq] at H
    obtain ⟨rfl, rfl, rfl, rfl⟩ := H
    go_wp2
    refine bodyPost_ret (results_list (rs := [.tmp 6, .tmp 7, .tmp 8, .tmp 9]) rfl (by simp) (.tmp (.tmp (.tmp (.tmp .nil))))) rfl ?_
    exact ⟨_, _, by first | rfl | (simp [errW_none, errW_some] <;> rfl) | (simp [*, errW_none, errW_some] <;> rfl), by first | exact Kd.R_nil _ _ _ _ _ | exact Kd.N_nil _ _ _ _ _ | exact Kd.V_nil _ _ _ _ _ | exact Kd.Q_nil _ _ _ _ _ | exact Kd.S_nil _ _ _ _ _, by first | exact Kd.R_nil _ _ _ _ _ | exact Kd.N_nil _ _ _ _ _ | exact Kd.V_nil _ _ _ _ _ | exact Kd.Q_nil _ _ _ _ _ | exact Kd.S_nil _ _ _ _ _, by repeat (first | (with_reducible first | exact HB.out | apply below_alloc | apply pw_below_drewN | apply below_drew1) | exact HB.out)⟩
   ·replace c7 := Bool.eq_false_iff.mpr c7
    subst c7
    have H1 : (if (l0.length : Int) > 1048576 then (marquetryref11_Part.j1 kj3 l0 a1 a2 true) else (marquetryref11_Part.j1 kj3 l0 a1 a2 (decide (a2 > 65536)))) = some (r1, r2, r3, r4) := by rw [if_neg (show ¬ (false = true) by decide)] at H; exact H
    clear H
    have H := H1
    clear H1
    have HC8 := Aside0.mk H
    clear H
    go_upto_region 3 with (fail)
    go_cut [41] (fun v41 wc => ∃ (kq : Nat) (x41_7 : Bool), v41 = .bool x41_7 ∧ Aside0 (marquetryref11_Part.j1 kq l0 a1 a2 x41_7 = some (r1, r2, r3, r4)) ∧ Aside0 (kq ≤ kj3) ∧ Aside0 (Below w.heap.size w wc))
    case first =>
     have H := HC8.out
     clear HC8
     by_cases c9 : (l0.length : Int) > 1048576
     ·rw [if_pos c9] at H
      have c9b0 : decide (1048576 < (l0.length : Int)) = true := decide_eq_true c9
      have c9b1 : decide (1048576 < l0.length) = true := decide_eq_true (by omega)
      clear c9
      (first | rw [c9b0] | (simp only [i64_w, i32_w]; rw [c9b0]) | skip)
      have H' := Aside0.mk H
      clear H
      go_wp2
      go_meet
      case rel => exact ⟨_, (true), (by first | rfl | (simp; done) | (simp [*]; done)), H', ⟨by have := HJ3.out; first | omega | exact Nat.le_refl _⟩, ⟨by repeat (first | (with_reducible first | exact HB.out | apply below_alloc | apply pw_below_drewN | apply below_drew1) | exact HB.out)⟩⟩
     ·rw [if_neg c9] at H
      have c9b0 : decide (1048576 < (l0.length : Int)) = false := decide_eq_false c9
      have c9b1 : decide (1048576 < l0.length) = false := decide_eq_false (by omega)
      clear c9
      (first | rw [c9b0] | (simp only [i64_w, i32_w]; rw [c9b0]) | skip)
      have H' := Aside0.mk H
      clear H
      go_wp2
      go_meet
      case rel => exact ⟨_, (decide (a2 > 65536)), (by first | rfl | (simp; done) | (simp [*]; done)), H', ⟨by have := HJ3.out; first | omega | exact Nat.le_refl _⟩, ⟨by repeat (first | (with_reducible first | exact HB.out | apply below_alloc | apply pw_below_drewN | apply below_drew1) | exact HB.out)⟩⟩
    case rest =>
     as_aux_lemma =>
     clear HC8
     try clear p2
     try clear c5
     try clear c5b0
     try clear c6
     try clear c6b0
     try clear c7
     try clear c9
     try clear c9b0
     try clear c9b1
     try clear p2
     obtain ⟨kq, x41_7, rfl, HA, HJ7, HB⟩ := hcut
     cases kq with
     | zero => exact absurd HA.out (by simp [marquetryref11_Part.j1])
     | succ kj7 =>
      have H := HA.out
      clear HA
      simp only [marquetryref11_Part.j1] at H
      by_cases c10 : x41_7 = true
      ·subst c10
       have H1 : (some (([] : List Int), ([] : List (S110)), 0, 3)) = some (r1, r2, r3, r4) := by rw [if_pos rfl] at H; exact H
       clear H
       have H := H1
       clear H1
       simp only [Option.some.injEq, Prod.mk.injEq] at H
       obtain ⟨rfl, rfl, rfl, rfl⟩ := H
       go_wp2
       refine bodyPost_ret (results_list (rs := [.tmp 6, .tmp 7, .tmp 8, .tmp 9]) rfl (by simp) (.tmp (.tmp (.tmp (.tmp .nil))))) rfl ?_
       exact ⟨_, _, by first | rfl | (simp [errW_none, errW_some] <;> rfl) | (simp [*, errW_none, errW_some] <;> rfl), by first | exact Kd.R_nil _ _ _ _ _ | exact Kd.N_nil _ _ _ _ _ | exact Kd.V_nil _ _ _ _ _ | exact Kd.Q_nil _ _ _ _ _ | exact Kd.S_nil _ _ _ _ _, by first | exact Kd.R_nil _ _ _ _ _ | exact Kd.N_nil _ _ _ _ _ | exact Kd.V_nil _ _ _ _ _ | exact Kd.Q_nil _ _ _ _ _ | exact Kd.S_nil _ _ _ _ _, by repeat (first | (with_reducible first | exact HB.out | apply below_alloc | apply pw_below_drewN | apply below_drew1) | exact HB.out)⟩
      ·replace c10 := Bool.eq_false_iff.mpr c10
       subst c10
       have H1 : (marquetryref11_Part.l0 kj7 l0 a1 a2 ([] : List Int) ([] : List (S110)) 0) = some (r1, r2, r3, r4) := by rw [if_neg (show ¬ (false = true) by decide)] at H; exact H
       clear H
       have H := H1
       clear H1
       have H' := Aside0.mk H
       clear H
       go_wp2
       go_loopg [10, 11, 12] kj7 (fun kq v10 v11 v12 w' => ∃ (x10_3 : List Int) (x11_3 : List (S110)) (x12_3 : Int), v12 = .int .i64 x12_3 ∧ Aside0 (marquetryref11_Part.l0 kq l0 a1 a2 x10_3 x11_3 x12_3 = some (r1, r2, r3, r4)) ∧ Aside0 (kq ≤ kj7) ∧ Aside0 (Kd.R (Kd.int .i64) 3 w' w.heap.size (fun _ => True) v10 x10_3) ∧ Aside0 (Kd.R k110 110 w' w.heap.size (fun _ => True) v11 x11_3) ∧ Aside0 (Below w.heap.size w w'))
       case atStart => exact ⟨(([] : List Int)), (([] : List (S110))), (0), (by first | rfl | (simp; done) | (simp [*]; done)), H', ⟨Nat.le_refl _⟩, ⟨by first | exact Kd.R_nil _ _ _ _ _ | exact Kd.N_nil _ _ _ _ _ | exact Kd.V_nil _ _ _ _ _ | exact Kd.Q_nil _ _ _ _ _ | exact Kd.S_nil _ _ _ _ _⟩, ⟨by first | exact Kd.R_nil _ _ _ _ _ | exact Kd.N_nil _ _ _ _ _ | exact Kd.V_nil _ _ _ _ _ | exact Kd.Q_nil _ _ _ _ _ | exact Kd.S_nil _ _ _ _ _⟩, ⟨by repeat (first | (with_reducible first | exact HB.out | apply below_alloc | apply pw_below_drewN | apply below_drew1) | exact HB.out)⟩⟩
       case round =>
        as_aux_lemma =>
        clear H'
        try clear c1
        try clear p2
        try clear c5
        try clear c5b0
        try clear c6
        try clear c6b0
        try clear c7
        try clear c9
        try clear c9b0
        try clear c9b1
        try clear c10
        try clear p2
        obtain ⟨x10_3, x11_3, x12_3, rfl, HA, HK3, HO_10, HO_11, HB⟩ := hrel
        cases gk with
        | zero => exact absurd HA.out (by simp [marquetryref11_Part.l0])
        | succ k3 =>
         have H := HA.out
         clear HA
         simp only [marquetryref11_Part.l0] at H
         by_cases c11 : (x10_3.length : Int) < a2
         ·rw [if_pos c11] at H
          have c11b0 : decide ((x10_3.length : Int) < a2) = true := decide_eq_true c11
          clear c11
          replace H := Option.bind_eq_some_iff.mp H
          obtain ⟨⟨t347, t348, t349⟩, A120, H⟩ := H
          replace H : (if t349 = 0 then (if (IntKind.u64.wrap (Int.tdiv t347 2)) = 0 then (marquetryref11_Part.j3 k3 l0 a1 a2 x10_3 x11_3 t347 t348 (IntKind.u64.wrap (wrap64 (a2 - (x10_3.length : Int)))) (IntKind.u64.wrap (Int.tdiv t347 2)) true) else (if (Int.tmod t347 2) = 0 then (if (IntKind.u64.wrap (Int.tdiv t347 2)) > (IntKind.u64.wrap (wrap64 (a2 - (x10_3.length : Int)))) then (marquetryref11_Part.j3 k3 l0 a1 a2 x10_3 x11_3 t347 t348 (IntKind.u64.wrap (wrap64 (a2 - (x10_3.length : Int)))) (IntKind.u64.wrap (Int.tdiv t347 2)) true) else (if (Int.tmod t347 2) = 1 then (marquetryref11_Part.j3 k3 l0 a1 a2 x10_3 x11_3 t347 t348 (IntKind.u64.wrap (wrap64 (a2 - (x10_3.length : Int)))) (IntKind.u64.wrap (Int.tdiv t347 2)) (decide ((IntKind.u64.wrap (Int.tdiv t347 2)) > (IntKind.u64.wrap (Int.tdiv (IntKind.u64.wrap ((IntKind.u64.wrap (wrap64 (a2 - (x10_3.length : Int)))) + 7)) 8))))) else (marquetryref11_Part.j3 k3 l0 a1 a2 x10_3 x11_3 t347 t348 (IntKind.u64.wrap (wrap64 (a2 - (x10_3.length : Int)))) (IntKind.u64.wrap (Int.tdiv t347 2)) false))) else (if (Int.tmod t347 2) = 1 then (marquetryref11_Part.j3 k3 l0 a1 a2 x10_3 x11_3 t347 t348 (IntKind.u64.wrap (wrap64 (a2 - (x10_3.length : Int)))) (IntKind.u64.wrap (Int.tdiv t347 2)) (decide ((IntKind.u64.wrap (Int.tdiv t347 2)) > (IntKind.u64.wrap (Int.tdiv (IntKind.u64.wrap ((IntKind.u64.wrap (wrap64 (a2 - (x10_3.length : Int)))) + 7)) 8))))) else (marquetryref11_Part.j3 k3 l0 a1 a2 x10_3 x11_3 t347 t348 (IntKind.u64.wrap (wrap64 (a2 - (x10_3.length : Int)))) (IntKind.u64.wrap (Int.tdiv t347 2)) false)))) else (some (([] : List Int), ([] : List (S110)), 0, t349))) = some (r1, r2, r3, r4) := H
          have A12 := Aside0.mk A120
          clear A120
          by_cases c13 : t349 = 0
          ·rw [if_pos c13] at H
           have c13b0 : (t349 == 0) = true := beq_iff_eq.mpr c13
           have c13b1 : (t349 != 0) = false := bne_eq_false_iff_eq.mpr c13
           clear c13
           have HC14 := Aside0.mk H
           clear H
           obtain ⟨Ao15, co15, eo15⟩ := Kd.R_slice HO_10.out
           subst eo15
           go_upto_region 14 with (first | ((with_reducible refine gate_callee (f := 72) rfl ?_); refine goesL_ (some 49) rfl rfl Try.func72 (by kernel_rfl) rfl #[.slice A0 l0.length c0, .int .i64 x12_3] rfl (by (try simp only [List.map_toArray, List.map_cons, List.map_nil]); first | done | rfl | (simp only [List.length_drop, List.length_take]; rfl)) ?_; (with_reducible refine (marquetryref01_ReadVarint.calls k3 _ _ l0 x12_3 t347 t348 t349 _ ?side1 ?side2 A12.out).mono ?_); (case side1 => repeat (first | exact (Kd.C_below HR0.out HB.out) | (with_reducible refine Kd.C_alloc ?_ _) | (with_reducible refine Kd.C_drewN ?_ _) | (with_reducible refine Kd.C_drew ?_))); (case side2 => exact HC0.out); rintro e w' ⟨rfl, ⟨nd, rfl⟩⟩; refine ⟨_, rfl, ?_⟩))
           (try simp only [Act.put, List.setIfInBounds_toArray, List.set_cons_zero, List.set_cons_succ])
           go_cut [86] (fun v86 wc => ∃ (kq : Nat) (x86_13 : Bool), v86 = .bool x86_13 ∧ Aside0 (marquetryref11_Part.j3 kq l0 a1 a2 x10_3 x11_3 t347 t348 (IntKind.u64.wrap (wrap64 (a2 - (x10_3.length : Int)))) (IntKind.u64.wrap (Int.tdiv t347 2)) x86_13 = some (r1, r2, r3, r4)) ∧ Aside0 (kq ≤ k3) ∧ Aside0 (Kd.R (Kd.int .i64) 3 wc w.heap.size (fun _ => True) (.slice Ao15 x10_3.length co15) x10_3) ∧ Aside0 (Kd.R k110 110 wc w.heap.size (fun _ => True) u11 x11_3) ∧ Aside0 (Below w.heap.size w wc))
           case first =>
            have H := HC14.out
            clear HC14
            by_cases c16 : (IntKind.u64.wrap (Int.tdiv t347 2)) = 0
            ·rw [if_pos c16] at H
             have c16b0 : ((IntKind.u64.wrap (Int.tdiv t347 2)) == 0) = true := beq_iff_eq.mpr c16
             have c16b1 : ((IntKind.u64.wrap (Int.tdiv t347 2)) != 0) = false := bne_eq_false_iff_eq.mpr c16
             clear c16
             (first | rw [c16b0] | (simp only [i64_w, i32_w]; rw [c16b0]) | skip)
             have H' := Aside0.mk H
             clear H
             go_wp2
             go_meet
             case rel => exact ⟨_, (true), (by first | rfl | (simp; done) | (simp [*]; done)), H', ⟨by have := HJ3.out; have := HJ7.out; have := HK3.out; first | omega | exact Nat.le_refl _⟩, ⟨by (with_reducible repeat (first | apply Kd.R_alloc | apply Kd.R_drewN | apply Kd.R_drew)); exact HO_10.out⟩, ⟨by (with_reducible repeat (first | apply Kd.R_alloc | apply Kd.R_drewN | apply Kd.R_drew)); exact HO_11.out⟩, ⟨by repeat (first | (with_reducible first | exact HB.out | apply below_alloc | apply pw_below_drewN | apply below_drew1) | exact HB.out)⟩⟩
            ·rw [if_neg c16] at H
             have c16b0 : ((IntKind.u64.wrap (Int.tdiv t347 2)) == 0) = false := beq_eq_false_iff_ne.mpr c16
             have c16b1 : ((IntKind.u64.wrap (Int.tdiv t347 2)) != 0) = true := bne_iff_ne.mpr c16
             (first | rw [c16b0] | (simp only [i64_w, i32_w]; rw [c16b0]) | skip)
             by_cases c17 : (Int.tmod t347 2) = 0
             ·rw [if_pos c17] at H
              have c17b0 : ((Int.tmod t347 2) == 0) = true := beq_iff_eq.mpr c17
              have c17b1 : ((Int.tmod t347 2) != 0) = false := bne_eq_false_iff_eq.mpr c17
              clear c17
              by_cases c18 : (IntKind.u64.wrap (Int.tdiv t347 2)) > (IntKind.u64.wrap (wrap64 (a2 - (x10_3.length : Int))))
              ·rw [if_pos c18] at H
               have c18b0 : decide ((IntKind.u64.wrap (wrap64 (a2 - (x10_3.length : Int)))) < (IntKind.u64.wrap (Int.tdiv t347 2))) = true := decide_eq_true c18
               clear c18
               have H' := Aside0.mk H
               clear H
               go_wp2
               go_meet
               case rel => exact ⟨_, (true), (by first | rfl | (simp; done) | (simp [*]; done)), H', ⟨by have := HJ3.out; have := HJ7.out; have := HK3.out; first | omega | exact Nat.le_refl _⟩, ⟨by (with_reducible repeat (first | apply Kd.R_alloc | apply Kd.R_drewN | apply Kd.R_drew)); exact HO_10.out⟩, ⟨by (with_reducible repeat (first | apply Kd.R_alloc | apply Kd.R_drewN | apply Kd.R_drew)); exact HO_11.out⟩, ⟨by repeat (first | (with_reducible first | exact HB.out | apply below_alloc | apply pw_below_drewN | apply below_drew1) | exact HB.out)⟩⟩
              ·rw [if_neg c18] at H
               have c18b0 : decide ((IntKind.u64.wrap (wrap64 (a2 - (x10_3.length : Int)))) < (IntKind.u64.wrap (Int.tdiv t347 2))) = false := decide_eq_false c18
               clear c18
               by_cases c19 : (Int.tmod t347 2) = 1
               ·rw [if_pos c19] at H
                have c19b0 : ((Int.tmod t347 2) == 1) = true := beq_iff_eq.mpr c19
                have c19b1 : ((Int.tmod t347 2) != 1) = false := bne_eq_false_iff_eq.mpr c19
                clear c19
                have H' := Aside0.mk H
                clear H
                go_wp2
                go_meet
                case rel => exact ⟨_, (decide ((IntKind.u64.wrap (Int.tdiv t347 2)) > (IntKind.u64.wrap (Int.tdiv (IntKind.u64.wrap ((IntKind.u64.wrap (wrap64 (a2 - (x10_3.length : Int)))) + 7)) 8)))), (by first | rfl | (simp; done) | (simp [*]; done)), H', ⟨by have := HJ3.out; have := HJ7.out; have := HK3.out; first | omega | exact Nat.le_refl _⟩, ⟨by (with_reducible repeat (first | apply Kd.R_alloc | apply Kd.R_drewN | apply Kd.R_drew)); exact HO_10.out⟩, ⟨by (with_reducible repeat (first | apply Kd.R_alloc | apply Kd.R_drewN | apply Kd.R_drew)); exact HO_11.out⟩, ⟨by repeat (first | (with_reducible first | exact HB.out | apply below_alloc | apply pw_below_drewN | apply below_drew1) | exact HB.out)⟩⟩
               ·rw [if_neg c19] at H
                have c19b0 : ((Int.tmod t347 2) == 1) = false := beq_eq_false_iff_ne.mpr c19
                have c19b1 : ((Int.tmod t347 2) != 1) = true := bne_iff_ne.mpr c19
                have H' := Aside0.mk H
                clear H
                go_wp2
                go_meet
                case rel => exact ⟨_, (false), (by first | rfl | (simp; done) | (simp [*]; done)), H', ⟨by have := HJ3.out; have := HJ7.out; have := HK3.out; first | omega | exact Nat.le_refl _⟩, ⟨by (with_reducible repeat (first | apply Kd.R_alloc | apply Kd.R_drewN | apply Kd.R_drew)); exact HO_10.out⟩, ⟨by (with_reducible repeat (first | apply Kd.R_alloc | apply Kd.R_drewN | apply Kd.R_drew)); exact HO_11.out⟩, ⟨by repeat (first | (with_reducible first | exact HB.out | apply below_alloc | apply pw_below_drewN | apply below_drew1) | exact HB.out)⟩⟩
             ·rw [if_neg c17] at H
              have c17b0 : ((Int.tmod t347 2) == 0) = false := beq_eq_false_iff_ne.mpr c17
              have c17b1 : ((Int.tmod t347 2) != 0) = true := bne_iff_ne.mpr c17
              by_cases c20 : (Int.tmod t347 2) = 1
              ·rw [if_pos c20] at H
               have c20b0 : ((Int.tmod t347 2) == 1) = true := beq_iff_eq.mpr c20
               have c20b1 : ((Int.tmod t347 2) != 1) = false := bne_eq_false_iff_eq.mpr c20
               clear c20
               have H' := Aside0.mk H
               clear H
               go_wp2
               go_meet
               case rel => exact ⟨_, (decide ((IntKind.u64.wrap (Int.tdiv t347 2)) > (IntKind.u64.wrap (Int.tdiv (IntKind.u64.wrap ((IntKind.u64.wrap (wrap64 (a2 - (x10_3.length : Int)))) + 7)) 8)))), (by first | rfl | (simp; done) | (simp [*]; done)), H', ⟨by have := HJ3.out; have := HJ7.out; have := HK3.out; first | omega | exact Nat.le_refl _⟩, ⟨by (with_reducible repeat (first | apply Kd.R_alloc | apply Kd.R_drewN | apply Kd.R_drew)); exact HO_10.out⟩, ⟨by (with_reducible repeat (first | apply Kd.R_alloc | apply Kd.R_drewN | apply Kd.R_drew)); exact HO_11.out⟩, ⟨by repeat (first | (with_reducible first | exact HB.out | apply below_alloc | apply pw_below_drewN | apply below_drew1) | exact HB.out)⟩⟩
              ·rw [if_neg c20] at H
               have c20b0 : ((Int.tmod t347 2) == 1) = false := beq_eq_false_iff_ne.mpr c20
               have c20b1 : ((Int.tmod t347 2) != 1) = true := bne_iff_ne.mpr c20
               have H' := Aside0.mk H
               clear H
               go_wp2
               go_meet
               case rel => exact ⟨_, (false), (by first | rfl | (simp; done) | (simp [*]; done)), H', ⟨by have := HJ3.out; have := HJ7.out; have := HK3.out; first | omega | exact Nat.le_refl _⟩, ⟨by (with_reducible repeat (first | apply Kd.R_alloc | apply Kd.R_drewN | apply Kd.R_drew)); exact HO_10.out⟩, ⟨by (with_reducible repeat (first | apply Kd.R_alloc | apply Kd.R_drewN | apply Kd.R_drew)); exact HO_11.out⟩, ⟨by repeat (first | (with_reducible first | exact HB.out | apply below_alloc | apply pw_below_drewN | apply below_drew1) | exact HB.out)⟩⟩
           case rest =>
            as_aux_lemma =>
            clear HC14
            try clear c1
            try clear c2
            try clear p2
            try clear c5
            try clear c5b0
            try clear c6
            try clear c6b0
            try clear p6
            try clear c7
            try clear c9
            try clear c9b0
            try clear c9b1
            try clear c10
            try clear c11
            try clear c11b0
            try clear c13
            try clear c13b0
            try clear c13b1
            try clear c16
            try clear c16b0
            try clear c16b1
            try clear c17
            try clear c17b0
            try clear c17b1
            try clear c18
            try clear c18b0
            try clear c19
            try clear c19b0
            try clear c19b1
            try clear c20
            try clear c20b0
            try clear c20b1
            try clear p2
            obtain ⟨kq, x86_13, rfl, HA, HJ13, HO_10, HO_11, HB⟩ := hcut
            cases kq with
            | zero => exact absurd HA.out (by simp [marquetryref11_Part.j3])
            | succ kj13 =>
             have H := HA.out
             clear HA
             simp only [marquetryref11_Part.j3] at H
             by_cases c21 : x86_13 = true
             ·subst c21
              have H1 : (some (([] : List Int), ([] : List (S110)), 0, 8)) = some (r1, r2, r3, r4) := by rw [if_pos rfl] at H; exact H
              clear H
              have H := H1
              clear H1
              simp only [Option.some.injEq, Prod.mk.injEq] at H
              obtain ⟨rfl, rfl, rfl, rfl⟩ := H
              go_wp2
              refine bodyPost_ret (results_list (rs := [.tmp 6, .tmp 7, .tmp 8, .tmp 9]) rfl (by simp) (.tmp (.tmp (.tmp (.tmp .nil))))) rfl ?_
              exact ⟨_, _, by first | rfl | (simp [errW_none, errW_some] <;> rfl) | (simp [*, errW_none, errW_some] <;> rfl), by first | exact Kd.R_nil _ _ _ _ _ | exact Kd.N_nil _ _ _ _ _ | exact Kd.V_nil _ _ _ _ _ | exact Kd.Q_nil _ _ _ _ _ | exact Kd.S_nil _ _ _ _ _, by first | exact Kd.R_nil _ _ _ _ _ | exact Kd.N_nil _ _ _ _ _ | exact Kd.V_nil _ _ _ _ _ | exact Kd.Q_nil _ _ _ _ _ | exact Kd.S_nil _ _ _ _ _, by repeat (first | (with_reducible first | exact HB.out | apply below_alloc | apply pw_below_drewN | apply below_drew1) | exact HB.out)⟩
             ·replace c21 := Bool.eq_false_iff.mpr c21
              subst c21
              have H1 : (if (Int.tmod t347 2) = 1 then (marquetryref11_Part.j4 kj13 l0 a1 a2 x10_3 x11_3 t347 t348 (IntKind.u64.wrap (wrap64 (a2 - (x10_3.length : Int)))) (IntKind.u64.wrap (Int.tdiv t347 2)) (wrap64 ((wrap64 ((IntKind.u64.wrap (Int.tdiv t347 2)))) * a1))) else (marquetryref11_Part.j4 kj13 l0 a1 a2 x10_3 x11_3 t347 t348 (IntKind.u64.wrap (wrap64 (a2 - (x10_3.length : Int)))) (IntKind.u64.wrap (Int.tdiv t347 2)) (wrap64 (Int.tdiv (wrap64 (a1 + 7)) 8)))) = some (r1, r2, r3, r4) := by rw [if_neg (show ¬ (false = true) by decide)] at H; exact H
              clear H
              have H := H1
              clear H1
              have HC22 := Aside0.mk H
              clear H
              go_upto_if 92 with (fail)
              go_cut [18] (fun v18 wc => ∃ (kq : Nat) (x18_21 : Int), v18 = .int .i64 x18_21 ∧ Aside0 (marquetryref11_Part.j4 kq l0 a1 a2 x10_3 x11_3 t347 t348 (IntKind.u64.wrap (wrap64 (a2 - (x10_3.length : Int)))) (IntKind.u64.wrap (Int.tdiv t347 2)) x18_21 = some (r1, r2, r3, r4)) ∧ Aside0 (kq ≤ kj13) ∧ Aside0 (Kd.R (Kd.int .i64) 3 wc w.heap.size (fun _ => True) (.slice Ao15 x10_3.length co15) x10_3) ∧ Aside0 (Kd.R k110 110 wc w.heap.size (fun _ => True) u11 x11_3) ∧ Aside0 (Below w.heap.size w wc))
              case first =>
               have H := HC22.out
               clear HC22
               by_cases c23 : (Int.tmod t347 2) = 1
               ·rw [if_pos c23] at H
                have c23b0 : ((Int.tmod t347 2) == 1) = true := beq_iff_eq.mpr c23
                have c23b1 : ((Int.tmod t347 2) != 1) = false := bne_eq_false_iff_eq.mpr c23
                clear c23
                (first | rw [c23b0] | (simp only [i64_w, i32_w]; rw [c23b0]) | skip)
                have H' := Aside0.mk H
                clear H
                go_wp2
                go_meet
                case rel => exact ⟨_, (wrap64 ((wrap64 ((IntKind.u64.wrap (Int.tdiv t347 2)))) * a1)), (by first | rfl | (simp; done) | (simp [*]; done)), H', ⟨by have := HJ3.out; have := HJ7.out; have := HK3.out; have := HJ13.out; first | omega | exact Nat.le_refl _⟩, ⟨by (with_reducible repeat (first | apply Kd.R_alloc | apply Kd.R_drewN | apply Kd.R_drew)); exact HO_10.out⟩, ⟨by (with_reducible repeat (first | apply Kd.R_alloc | apply Kd.R_drewN | apply Kd.R_drew)); exact HO_11.out⟩, ⟨by repeat (first | (with_reducible first | exact HB.out | apply below_alloc | apply pw_below_drewN | apply below_drew1) | exact HB.out)⟩⟩
               ·rw [if_neg c23] at H
                have c23b0 : ((Int.tmod t347 2) == 1) = false := beq_eq_false_iff_ne.mpr c23
                have c23b1 : ((Int.tmod t347 2) != 1) = true := bne_iff_ne.mpr c23
                (first | rw [c23b0] | (simp only [i64_w, i32_w]; rw [c23b0]) | skip)
                have H' := Aside0.mk H
                clear H
                go_wp2
                go_meet
                case rel => exact ⟨_, (wrap64 (Int.tdiv (wrap64 (a1 + 7)) 8)), (by first | rfl | (simp; done) | (simp [*]; done)), H', ⟨by have := HJ3.out; have := HJ7.out; have := HK3.out; have := HJ13.out; first | omega | exact Nat.le_refl _⟩, ⟨by (with_reducible repeat (first | apply Kd.R_alloc | apply Kd.R_drewN | apply Kd.R_drew)); exact HO_10.out⟩, ⟨by (with_reducible repeat (first | apply Kd.R_alloc | apply Kd.R_drewN | apply Kd.R_drew)); exact HO_11.out⟩, ⟨by repeat (first | (with_reducible first | exact HB.out | apply below_alloc | apply pw_below_drewN | apply below_drew1) | exact HB.out)⟩⟩
              case rest =>
               as_aux_lemma =>
               clear HC22
               try clear c1
               try clear c2
               try clear p2
               try clear c5
               try clear c5b0
               try clear c6
               try clear c6b0
               try clear p6
               try clear c7
               try clear c9
               try clear c9b0
               try clear c9b1
               try clear c10
               try clear c11
               try clear c11b0
               try clear c13
               try clear c13b0
               try clear c13b1
               try clear c16
               try clear c16b0
               try clear c16b1
               try clear c17
               try clear c17b0
               try clear c17b1
               try clear c18
               try clear c18b0
               try clear c19
               try clear c19b0
               try clear c19b1
               try clear c20
               try clear c20b0
               try clear c20b1
               try clear c21
               try clear c23
               try clear c23b0
               try clear c23b1
               try clear p2
               try clear p6
               obtain ⟨kq, x18_21, rfl, HA, HJ21, HO_10, HO_11, HB⟩ := hcut
               cases kq with
               | zero => exact absurd HA.out (by simp [marquetryref11_Part.j4])
               | succ kj21 =>
                have H := HA.out
                clear HA
                simp only [marquetryref11_Part.j4] at H
                by_cases c24 : (wrap64 ((l0.length : Int) - t348)) < x18_21
                ·rw [if_pos c24] at H
                 have c24b0 : decide ((wrap64 ((l0.length : Int) - t348)) < x18_21) = true := decide_eq_true c24
                 clear c24
                 simp only [Option.some.injEq, Prod.mk.injEq] at H
                 obtain ⟨rfl, rfl, rfl, rfl⟩ := H
                 go_wp2
                 refine bodyPost_ret (results_list (rs := [.tmp 6, .tmp 7, .tmp 8, .tmp 9]) rfl (by simp) (.tmp (.tmp (.tmp (.tmp .nil))))) rfl ?_
                 exact ⟨_, _, by first | rfl | (simp [errW_none, errW_some] <;> rfl) | (simp [*, errW_none, errW_some] <;> rfl), by first | exact Kd.R_nil _ _ _ _ _ | exact Kd.N_nil _ _ _ _ _ | exact Kd.V_nil _ _ _ _ _ | exact Kd.Q_nil _ _ _ _ _ | exact Kd.S_nil _ _ _ _ _, by first | exact Kd.R_nil _ _ _ _ _ | exact Kd.N_nil _ _ _ _ _ | exact Kd.V_nil _ _ _ _ _ | exact Kd.Q_nil _ _ _ _ _ | exact Kd.S_nil _ _ _ _ _, by repeat (first | (with_reducible first | exact HB.out | apply below_alloc | apply pw_below_drewN | apply below_drew1) | exact HB.out)⟩
                ·rw [if_neg c24] at H
                 have c24b0 : decide ((wrap64 ((l0.length : Int) - t348)) < x18_21) = false := decide_eq_false c24
                 clear c24
                 by_cases c25 : (Int.tmod t347 2) = 0
                 ·rw [if_pos c25] at H
                  have c25b0 : ((Int.tmod t347 2) == 0) = true := beq_iff_eq.mpr c25
                  have c25b1 : ((Int.tmod t347 2) != 0) = false := bne_eq_false_iff_eq.mpr c25
                  clear c25
                  replace H := Option.bind_eq_some_iff.mp H
                  obtain ⟨⟨t350, t351⟩, A260, H⟩ := H
                  replace H : ((marquetryref01_Width.f kj21 t350).bind fun t352 => (if t352 > a1 then (some (([] : List Int), ([] : List (S110)), 0, 8)) else (marquetryref11_Part.l1 kj21 l0 a1 a2 x10_3 x11_3 t348 (IntKind.u64.wrap (Int.tdiv t347 2)) x18_21 t350 0))) = some (r1, r2, r3, r4) := H
                  have A26 := Aside0.mk A260
                  clear A260
                  replace H := Option.bind_eq_some_iff.mp H
                  obtain ⟨t352, A270, H⟩ := H
                  replace H : (if t352 > a1 then (some (([] : List Int), ([] : List (S110)), 0, 8)) else (marquetryref11_Part.l1 kj21 l0 a1 a2 x10_3 x11_3 t348 (IntKind.u64.wrap (Int.tdiv t347 2)) x18_21 t350 0)) = some (r1, r2, r3, r4) := H
                  have A27 := Aside0.mk A270
                  clear A270
                  by_cases c28 : t352 > a1
                  ·rw [if_pos c28] at H
                   have c28b0 : decide (a1 < t352) = true := decide_eq_true c28
                   clear c28
                   simp only [Option.some.injEq, Prod.mk.injEq] at H
                   obtain ⟨rfl, rfl, rfl, rfl⟩ := H
                   go_wp2_with (first | ((with_reducible refine gate_callee (f := 51) rfl ?_); refine goesL_ (some 110) rfl rfl Try.func51 (by kernel_rfl) rfl #[.slice A0 l0.length c0, .int .i64 t348, .int .i64 x18_21] rfl (by (try simp only [List.map_toArray, List.map_cons, List.map_nil]); first | done | rfl | (simp only [List.length_drop, List.length_take]; rfl)) ?_; (with_reducible refine (marquetryref01_ReadLittle.calls kj21 _ _ l0 t348 x18_21 t350 t351 _ ?side1 ?side2 A26.out).mono ?_); (case side1 => repeat (first | exact (Kd.C_below HR0.out HB.out) | (with_reducible refine Kd.C_alloc ?_ _) | (with_reducible refine Kd.C_drewN ?_ _) | (with_reducible refine Kd.C_drew ?_))); (case side2 => exact HC0.out); rintro e w' ⟨rfl, ⟨nd, rfl⟩⟩; refine ⟨_, rfl, ?_⟩) | ((with_reducible refine gate_callee (f := 42) rfl ?_); refine goesL_ (some 114) rfl rfl Try.func42 (by kernel_rfl) rfl #[.int .u64 t350] rfl (by (try simp only [List.map_toArray, List.map_cons, List.map_nil]); first | done | rfl | (simp only [List.length_drop, List.length_take]; rfl)) ?_; (with_reducible refine (marquetryref01_Width.calls kj21 t350 t352 _ A27.out).mono ?_); rintro e w' ⟨rfl, ⟨nd, rfl⟩⟩; refine ⟨_, rfl, ?_⟩))
                   refine bodyPost_ret (results_list (rs := [.tmp 6, .tmp 7, .tmp 8, .tmp 9]) rfl (by simp) (.tmp (.tmp (.tmp (.tmp .nil))))) rfl ?_
                   exact ⟨_, _, by first | rfl | (simp [errW_none, errW_some] <;> rfl) | (simp [*, errW_none, errW_some] <;> rfl), by first | exact Kd.R_nil _ _ _ _ _ | exact Kd.N_nil _ _ _ _ _ | exact Kd.V_nil _ _ _ _ _ | exact Kd.Q_nil _ _ _ _ _ | exact Kd.S_nil _ _ _ _ _, by first | exact Kd.R_nil _ _ _ _ _ | exact Kd.N_nil _ _ _ _ _ | exact Kd.V_nil _ _ _ _ _ | exact Kd.Q_nil _ _ _ _ _ | exact Kd.S_nil _ _ _ _ _, by repeat (first | (with_reducible first | exact HB.out | apply below_alloc | apply pw_below_drewN | apply below_drew1) | exact HB.out)⟩
                  ·rw [if_neg c28] at H
                   have c28b0 : decide (a1 < t352) = false := decide_eq_false c28
                   clear c28
                   have H' := Aside0.mk H
                   clear H
                   go_wp2_with (first | ((with_reducible refine gate_callee (f := 51) rfl ?_); refine goesL_ (some 110) rfl rfl Try.func51 (by kernel_rfl) rfl #[.slice A0 l0.length c0, .int .i64 t348, .int .i64 x18_21] rfl (by (try simp only [List.map_toArray, List.map_cons, List.map_nil]); first | done | rfl | (simp only [List.length_drop, List.length_take]; rfl)) ?_; (with_reducible refine (marquetryref01_ReadLittle.calls kj21 _ _ l0 t348 x18_21 t350 t351 _ ?side1 ?side2 A26.out).mono ?_); (case side1 => repeat (first | exact (Kd.C_below HR0.out HB.out) | (with_reducible refine Kd.C_alloc ?_ _) | (with_reducible refine Kd.C_drewN ?_ _) | (with_reducible refine Kd.C_drew ?_))); (case side2 => exact HC0.out); rintro e w' ⟨rfl, ⟨nd, rfl⟩⟩; refine ⟨_, rfl, ?_⟩) | ((with_reducible refine gate_callee (f := 42) rfl ?_); refine goesL_ (some 114) rfl rfl Try.func42 (by kernel_rfl) rfl #[.int .u64 t350] rfl (by (try simp only [List.map_toArray, List.map_cons, List.map_nil]); first | done | rfl | (simp only [List.length_drop, List.length_take]; rfl)) ?_; (with_reducible refine (marquetryref01_Width.calls kj21 t350 t352 _ A27.out).mono ?_); rintro e w' ⟨rfl, ⟨nd, rfl⟩⟩; refine ⟨_, rfl, ?_⟩))
                   go_loopg [10, 21] kj21 (fun kq v10 v21 w' => ∃ (x10_6 : List Int) (x21_6 : Int), v21 = .int .u64 x21_6 ∧ Aside0 (marquetryref11_Part.l1 kq l0 a1 a2 x10_6 x11_3 t348 (IntKind.u64.wrap (Int.tdiv t347 2)) x18_21 t350 x21_6 = some (r1, r2, r3, r4)) ∧ Aside0 (kq ≤ kj21) ∧ Aside0 (Kd.R (Kd.int .i64) 3 w' w.heap.size (fun _ => True) v10 x10_6) ∧ Aside0 (Kd.R k110 110 w' w.heap.size (fun _ => True) u11 x11_3) ∧ Aside0 (Below w.heap.size w w'))
                   case atStart => exact ⟨(x10_3), (0), (by first | rfl | (simp; done) | (simp [*]; done)), H', ⟨Nat.le_refl _⟩, ⟨by (with_reducible repeat (first | apply Kd.R_alloc | apply Kd.R_drewN | apply Kd.R_drew)); exact HO_10.out⟩, ⟨by (with_reducible repeat (first | apply Kd.R_alloc | apply Kd.R_drewN | apply Kd.R_drew)); exact HO_11.out⟩, ⟨by repeat (first | (with_reducible first | exact HB.out | apply below_alloc | apply pw_below_drewN | apply below_drew1) | exact HB.out)⟩⟩
                   case round =>
                    as_aux_lemma =>
                    clear H'
                    try clear c1
                    try clear c2
                    try clear p2
                    try clear c4
                    try clear c5
                    try clear c5b0
                    try clear c6
                    try clear c6b0
                    try clear p6
                    try clear c7
                    try clear c9
                    try clear c9b0
                    try clear c9b1
                    try clear c10
                    try clear c11
                    try clear c11b0
                    try clear c13
                    try clear c13b0
                    try clear c13b1
                    try clear c16
                    try clear c16b0
                    try clear c16b1
                    try clear c17
                    try clear c17b0
                    try clear c17b1
                    try clear c18
                    try clear c18b0
                    try clear c19
                    try clear c19b0
                    try clear c19b1
                    try clear c20
                    try clear c20b0
                    try clear c20b1
                    try clear c21
                    try clear c23
                    try clear c23b0
                    try clear c23b1
                    try clear c24
                    try clear c24b0
                    try clear c25
                    try clear c25b0
                    try clear c25b1
                    try clear c28
                    try clear c28b0
                    try clear p2
                    try clear p6
                    obtain ⟨x10_6, x21_6, rfl, HA, HK6, HO_10, HO_11, HB⟩ := hrel
                    cases gk with
                    | zero => exact absurd HA.out (by simp [marquetryref11_Part.l1])
                    | succ k6 =>
                     have H := HA.out
                     clear HA
                     simp only [marquetryref11_Part.l1] at H
                     by_cases c29 : x21_6 < (IntKind.u64.wrap (Int.tdiv t347 2))
                     ·rw [if_pos c29] at H
                      have c29b0 : decide (x21_6 < (IntKind.u64.wrap (Int.tdiv t347 2))) = true := decide_eq_true c29
                      clear c29
                      by_cases c30 : x10_6.length < 17592186044416
                      ·rw [if_pos c30] at H
                       have LMc30 := Aside0.mk c30
                       clear c30
                       obtain ⟨y353, hy353⟩ : ∃ y_ : List Int, y_ = (x10_6 ++ [wrap64 (t350)]) := ⟨_, rfl⟩
                       replace H : (marquetryref11_Part.l1 k6 l0 a1 a2 y353 x11_3 t348 (IntKind.u64.wrap (Int.tdiv t347 2)) x18_21 t350 (IntKind.u64.wrap (x21_6 + 1))) = some (r1, r2, r3, r4) := by first | (rw [hy353]; with_reducible exact H) | (have H2_ := (Option.bind_some _ _).symm.trans H; rw [hy353]; with_reducible exact H2_) | (have H2_ := (Option.bind_some _ _).symm.trans H; with_reducible exact H2_) | with_reducible exact H | (rw [hy353]; exact H) | exact H
                       have Ny353 := Aside0.mk hy353
                       clear hy353
                       have H' := Aside0.mk H
                       clear H
                       go_wp2_with (first | ((with_reducible refine gate_builtin (b := .append) (xs := #[.tmp 122, .tmp 125]) rfl ?_); at_builtin; refine Kd.R_append (Kd.int .i64) (w0 := w) w.heap.size rfl (.tmp 122) (.tmp 125) 23 3 (.int .i64 0) 8 rfl Try.underlying23 info3 rfl (by decide) (by omega) u10 x10_6 (wrap64 (t350)) [.int .i64 (wrap64 (t350))] (fun _ => True) (fun _ => False) rfl rfl ?aP (fun _ hk => hk.elim) ?aF ?aO ?aB ?aS ?aL ?_; (case aP => exact rfl); (case aB => exact (by repeat (first | (with_reducible first | exact HB.out | apply below_alloc | apply pw_below_drewN | apply below_drew1) | exact HB.out))); (case aF => exact (fun _ _ => trivial)); (case aO => exact (by (with_reducible repeat (first | apply Kd.R_alloc | apply Kd.R_drewN | apply Kd.R_drew)); exact HO_10.out)); (case aS => exact (below_size (by repeat (first | (with_reducible first | exact HB.out | apply below_alloc | apply pw_below_drewN | apply below_drew1) | exact HB.out)))); (case aL => have := LMc30.out; omega); intro v354 w31 ho hb hg hat; rw [← Ny353.out] at ho; have n0_ := Aside0.mk (Kd.R_over' (by (with_reducible repeat (first | apply Kd.R_alloc | apply Kd.R_drewN | apply Kd.R_drew)); exact HO_11.out) (Kd.R_typed (by (with_reducible repeat (first | apply Kd.R_alloc | apply Kd.R_drewN | apply Kd.R_drew)); exact HO_10.out)) (by decide) hg); have n1_ := Aside0.mk (hb); have n2_ := Aside0.mk (ho); clear HO_11; clear HB; clear HO_10; have HO_11 := n0_; have HB := n1_; have HO355 := n2_; clear n0_ n1_ n2_; clear ho hb hg hat))
                       go_roundg k6
                       case measure => have := HJ3.out; have := HJ7.out; have := HK3.out; have := HJ13.out; have := HJ21.out; have := HK6.out; omega
                       case rel => exact ⟨(y353), (IntKind.u64.wrap (x21_6 + 1)), (by first | rfl | (simp; done) | (simp [*]; done)), H', ⟨by have := HJ3.out; have := HJ7.out; have := HK3.out; have := HJ13.out; have := HJ21.out; have := HK6.out; omega⟩, ⟨by (with_reducible repeat (first | apply Kd.R_alloc | apply Kd.R_drewN | apply Kd.R_drew)); exact HO355.out⟩, ⟨by (with_reducible repeat (first | apply Kd.R_alloc | apply Kd.R_drewN | apply Kd.R_drew)); exact HO_11.out⟩, ⟨by repeat (first | (with_reducible first | exact HB.out | apply below_alloc | apply pw_below_drewN | apply below_drew1) | exact HB.out)⟩⟩
                      ·rw [if_neg c30] at H
                       exact absurd H (by simp)
                     ·rw [if_neg c29] at H
                      have c29b0 : decide (x21_6 < (IntKind.u64.wrap (Int.tdiv t347 2))) = false := decide_eq_false c29
                      clear c29
                      by_cases c32 : x11_3.length < 8796093022208
                      ·rw [if_pos c32] at H
                       have LMc32 := Aside0.mk c32
                       clear c32
                       obtain ⟨y356, hy356⟩ : ∃ y_ : List (S110), y_ = (x11_3 ++ [(⟨false, wrap64 ((IntKind.u64.wrap (Int.tdiv t347 2)))⟩ : S110)]) := ⟨_, rfl⟩
                       replace H : (marquetryref11_Part.l0 k6 l0 a1 a2 x10_6 y356 (wrap64 (t348 + x18_21))) = some (r1, r2, r3, r4) := by first | (rw [hy356]; with_reducible exact H) | (have H2_ := (Option.bind_some _ _).symm.trans H; rw [hy356]; with_reducible exact H2_) | (have H2_ := (Option.bind_some _ _).symm.trans H; with_reducible exact H2_) | with_reducible exact H | (rw [hy356]; exact H) | exact H
                       have Ny356 := Aside0.mk hy356
                       clear hy356
                       have H' := Aside0.mk H
                       clear H
                       go_wp2_with (first | ((with_reducible refine gate_builtin (b := .append) (xs := #[.tmp 127, .tmp 131]) rfl ?_); at_builtin; refine Kd.R_append k110 (w0 := w) w.heap.size rfl (.tmp 127) (.tmp 131) 73 110 (.agg #[(.bool false), (.int .i64 0)]) 16 rfl Try.underlying73 info110 rfl (by decide) (by omega) u11 x11_3 (⟨false, wrap64 ((IntKind.u64.wrap (Int.tdiv t347 2)))⟩ : S110) [.bool false, .int .i64 (wrap64 ((IntKind.u64.wrap (Int.tdiv t347 2))))] (fun _ => True) (fun _ => False) rfl rfl ?aP (fun _ hk => hk.elim) ?aF ?aO ?aB ?aS ?aL ?_; (case aP => exact k110_mkM _ _ _ (⟨false, wrap64 ((IntKind.u64.wrap (Int.tdiv t347 2)))⟩ : S110)); (case aB => exact (by repeat (first | (with_reducible first | exact HB.out | apply below_alloc | apply pw_below_drewN | apply below_drew1) | exact HB.out))); (case aF => exact (fun _ _ => trivial)); (case aO => exact (by (with_reducible repeat (first | apply Kd.R_alloc | apply Kd.R_drewN | apply Kd.R_drew)); exact HO_11.out)); (case aS => exact (below_size (by repeat (first | (with_reducible first | exact HB.out | apply below_alloc | apply pw_below_drewN | apply below_drew1) | exact HB.out)))); (case aL => have := LMc32.out; omega); intro v357 w33 ho hb hg hat; rw [← Ny356.out] at ho; have n0_ := Aside0.mk (Kd.R_over' (by (with_reducible repeat (first | apply Kd.R_alloc | apply Kd.R_drewN | apply Kd.R_drew)); exact HO_10.out) (Kd.R_typed (by (with_reducible repeat (first | apply Kd.R_alloc | apply Kd.R_drewN | apply Kd.R_drew)); exact HO_11.out)) (by decide) hg); have n1_ := Aside0.mk (hb); have n2_ := Aside0.mk (ho); clear HO_10; clear HB; clear HO_11; have HO_10 := n0_; have HB := n1_; have HO358 := n2_; clear n0_ n1_ n2_; clear ho hb hg hat))
                       go_roundg k6
                       case measure => have := HJ3.out; have := HJ7.out; have := HK3.out; have := HJ13.out; have := HJ21.out; have := HK6.out; omega
                       case rel => exact ⟨(x10_6), (y356), (wrap64 (t348 + x18_21)), (by first | rfl | (simp; done) | (simp [*]; done)), H', ⟨by have := HJ3.out; have := HJ7.out; have := HK3.out; have := HJ13.out; have := HJ21.out; have := HK6.out; omega⟩, ⟨by (with_reducible repeat (first | apply Kd.R_alloc | apply Kd.R_drewN | apply Kd.R_drew)); exact HO_10.out⟩, ⟨by (with_reducible repeat (first | apply Kd.R_alloc | apply Kd.R_drewN | apply Kd.R_drew)); exact HO358.out⟩, ⟨by repeat (first | (with_reducible first | exact HB.out | apply below_alloc | apply pw_below_drewN | apply below_drew1) | exact HB.out)⟩⟩
                      ·rw [if_neg c32] at H
                       exact absurd H (by simp)
                 ·rw [if_neg c25] at H
                  have c25b0 : ((Int.tmod t347 2) == 0) = false := beq_eq_false_iff_ne.mpr c25
                  have c25b1 : ((Int.tmod t347 2) != 0) = true := bne_iff_ne.mpr c25
                  by_cases c34 : 0 ≤ t348
                  ·rw [if_pos c34] at H
                   have c34b0 := eq_true c34
                   have c34b1 : decide (0 ≤ t348) = true := decide_eq_true c34
                   clear c34
                   by_cases c35 : t348 ≤ (wrap64 (t348 + x18_21))
                   ·rw [if_pos c35] at H
                    have c35b0 := eq_true c35
                    have c35b1 : decide (t348 ≤ (wrap64 (t348 + x18_21))) = true := decide_eq_true c35
                    by_cases c36 : (wrap64 (t348 + x18_21)) ≤ (l0.length : Int)
                    ·rw [if_pos c36] at H
                     have c36b0 := eq_true c36
                     have c36b1 : decide ((wrap64 (t348 + x18_21)) ≤ (l0.length : Int)) = true := decide_eq_true c36
                     replace H := Option.bind_eq_some_iff.mp H
                     obtain ⟨⟨t360, t361⟩, A370, H⟩ := H
                     replace H : (marquetryref11_Part.l2 kj21 l0 a1 a2 x10_3 x11_3 t348 (IntKind.u64.wrap (wrap64 (a2 - (x10_3.length : Int)))) (IntKind.u64.wrap (Int.tdiv t347 2)) x18_21 t360 0) = some (r1, r2, r3, r4) := H
                     have A37 := Aside0.mk A370
                     clear A370
                     have H' := Aside0.mk H
                     clear H
                     obtain ⟨i038, hi038, _, hsz38, _⟩ := info_parts info5
                     obtain ⟨A38, hcut38, hA38, hC38⟩ := print_mid_of (P := Try.prog) (Value.int .u8) 0 37 5 .i64 .i64 Try.underlying37 hi038 hsz38 A0 c0 l0 t348 (wrap64 (t348 + x18_21)) (of_decide_eq_true (by first | (with_reducible assumption) | assumption)) (by first | omega | exact of_decide_eq_true (by first | (with_reducible assumption) | assumption)) (of_decide_eq_true (by first | (with_reducible assumption) | assumption)) HC0.out
                     have HR359 := Aside0.mk (Kd.C_of_reads (h1 := fun _ => rfl) (hA38 _ (Kd.reads_of_C HR0.out)))
                     have HC359 := Aside0.mk hC38
                     clear hA38 hC38 hi038 hsz38
                     go_wp2_with (first | ((with_reducible refine gate_callee (f := 73) rfl ?_); refine goesL_ (some 144) rfl rfl Try.func73 (by kernel_rfl) rfl #[.slice A38 ((l0.take ((wrap64 (t348 + x18_21)) : Int).toNat).drop (t348 : Int).toNat).length (c0 - t348.toNat), .int .i64 a1, .int .i64 (wrap64 ((wrap64 ((IntKind.u64.wrap (Int.tdiv t347 2)))) * 8))] rfl (by (try simp only [List.map_toArray, List.map_cons, List.map_nil]); first | done | (rw [show ((l0.take ((wrap64 (t348 + x18_21)) : Int).toNat).drop (t348 : Int).toNat).length = ((wrap64 (t348 + x18_21)).toNat - t348.toNat) from (by rw [List.length_drop, List.length_take]; have h_ : ((wrap64 (t348 + x18_21)) : Int) ≤ (l0.length : Int) := of_decide_eq_true (by first | (with_reducible assumption) | assumption); omega)] <;> rfl) | rfl | (simp only [List.length_drop, List.length_take]; rfl)) ?_; (with_reducible refine (marquetryref01_Unpack.calls kj21 _ _ ((l0.take ((wrap64 (t348 + x18_21)) : Int).toNat).drop (t348 : Int).toNat) a1 (wrap64 ((wrap64 ((IntKind.u64.wrap (Int.tdiv t347 2)))) * 8)) t360 t361 _ ?side1 ?side2 A37.out).mono ?_); (case side1 => repeat (first | exact (Kd.C_below HR359.out HB.out) | (with_reducible refine Kd.C_alloc ?_ _) | (with_reducible refine Kd.C_drewN ?_ _) | (with_reducible refine Kd.C_drew ?_))); (case side2 => exact HC359.out); rintro e w39 ⟨v362, rfl, ho0, hb⟩; refine ⟨_, rfl, ?_⟩; have n0_ := Aside0.mk (Kd.R_below (by (with_reducible repeat (first | apply Kd.R_alloc | apply Kd.R_drewN | apply Kd.R_drew)); exact HO_10.out) hb); have n1_ := Aside0.mk (Kd.R_below (by (with_reducible repeat (first | apply Kd.R_alloc | apply Kd.R_drewN | apply Kd.R_drew)); exact HO_11.out) hb); have n2_ := Aside0.mk (Kd.R_lower ho0 (below_size (by repeat (first | (with_reducible first | exact HB.out | apply below_alloc | apply pw_below_drewN | apply below_drew1) | exact HB.out)))); have n3_ := Aside0.mk (below_step (by repeat (first | (with_reducible first | exact HB.out | apply below_alloc | apply pw_below_drewN | apply below_drew1) | exact HB.out)) hb); clear HO_10; clear HO_11; clear HB; have HO_10 := n0_; have HO_11 := n1_; have HO363 := n2_; have HB := n3_; clear n0_ n1_ n2_ n3_; (try clear hb); (try clear hb2); (try clear hk); (try clear hi); (try clear ho0)))
                     go_loopg [10, 24] kj21 (fun kq v10 v24 w' => ∃ (x10_6 : List Int) (x24_6 : Int), v24 = .int .i64 x24_6 ∧ Aside0 (marquetryref11_Part.l2 kq l0 a1 a2 x10_6 x11_3 t348 (IntKind.u64.wrap (wrap64 (a2 - (x10_3.length : Int)))) (IntKind.u64.wrap (Int.tdiv t347 2)) x18_21 t360 x24_6 = some (r1, r2, r3, r4)) ∧ Aside0 (kq ≤ kj21) ∧ Aside0 (Kd.R (Kd.int .i64) 3 w' w.heap.size (fun _ => True) v10 x10_6) ∧ Aside0 (Kd.R k110 110 w' w.heap.size (fun _ => True) u11 x11_3) ∧ Aside0 (Kd.R (Kd.int .u64) 61 w' w.heap.size (fun _ => True) v362 t360) ∧ Aside0 (Below w.heap.size w w'))
                     case atStart => exact ⟨(x10_3), (0), (by first | rfl | (simp; done) | (simp [*]; done)), H', ⟨Nat.le_refl _⟩, ⟨by (with_reducible repeat (first | apply Kd.R_alloc | apply Kd.R_drewN | apply Kd.R_drew)); exact HO_10.out⟩, ⟨by (with_reducible repeat (first | apply Kd.R_alloc | apply Kd.R_drewN | apply Kd.R_drew)); exact HO_11.out⟩, ⟨by (with_reducible repeat (first | apply Kd.R_alloc | apply Kd.R_drewN | apply Kd.R_drew)); exact HO363.out⟩, ⟨by repeat (first | (with_reducible first | exact HB.out | apply below_alloc | apply pw_below_drewN | apply below_drew1) | exact HB.out)⟩⟩
                     case round =>
                      as_aux_lemma =>
                      clear H'
                      try clear c1
                      try clear c2
                      try clear p2
                      try clear c3
                      try clear c4
                      try clear c5
                      try clear c5b0
                      try clear c6
                      try clear c6b0
                      try clear p6
                      try clear c7
                      try clear c9
                      try clear c9b0
                      try clear c9b1
                      try clear c10
                      try clear c11
                      try clear c11b0
                      try clear c13
                      try clear c13b0
                      try clear c13b1
                      try clear c16
                      try clear c16b0
                      try clear c16b1
                      try clear c17
                      try clear c17b0
                      try clear c17b1
                      try clear c18
                      try clear c18b0
                      try clear c19
                      try clear c19b0
                      try clear c19b1
                      try clear c20
                      try clear c20b0
                      try clear c20b1
                      try clear c21
                      try clear c23
                      try clear c23b0
                      try clear c23b1
                      try clear c24
                      try clear c24b0
                      try clear c25
                      try clear c25b0
                      try clear c25b1
                      try clear c28
                      try clear c28b0
                      try clear c29
                      try clear c29b0
                      try clear c30
                      try clear c32
                      try clear c34
                      try clear c34b0
                      try clear c34b1
                      try clear c35
                      try clear c35b0
                      try clear c35b1
                      try clear c36
                      try clear c36b0
                      try clear c36b1
                      try clear p2
                      try clear p6
                      obtain ⟨x10_6, x24_6, rfl, HA, HK6, HO_10, HO_11, HO_22, HB⟩ := hrel
                      cases gk with
                      | zero => exact absurd HA.out (by simp [marquetryref11_Part.l2])
                      | succ k6 =>
                       have H := HA.out
                       clear HA
                       simp only [marquetryref11_Part.l2] at H
                       by_cases c40 : x24_6 < (t360.length : Int)
                       ·rw [if_pos c40] at H
                        have c40b0 : decide (x24_6 < (t360.length : Int)) = true := decide_eq_true c40
                        clear c40
                        have HC41 := Aside0.mk H
                        clear H
                        obtain ⟨Ao42, co42, eo42⟩ := Kd.R_slice HO_22.out
                        subst eo42
                        go_upto_region 34 with (fail)
                        go_cut [163] (fun v163 wc => ∃ (kq : Nat) (x163_40 : Bool), v163 = .bool x163_40 ∧ Aside0 (marquetryref11_Part.j7 kq l0 a1 a2 x10_6 x11_3 t348 (IntKind.u64.wrap (wrap64 (a2 - (x10_3.length : Int)))) (IntKind.u64.wrap (Int.tdiv t347 2)) x18_21 t360 x24_6 x163_40 = some (r1, r2, r3, r4)) ∧ Aside0 (kq ≤ k6) ∧ Aside0 (Kd.R (Kd.int .i64) 3 wc w.heap.size (fun _ => True) u10 x10_6) ∧ Aside0 (Kd.R k110 110 wc w.heap.size (fun _ => True) u11 x11_3) ∧ Aside0 (Kd.R (Kd.int .u64) 61 wc w.heap.size (fun _ => True) (.slice Ao42 t360.length co42) t360) ∧ Aside0 (Below w.heap.size w wc))
                        case first =>
                         have H := HC41.out
                         clear HC41
                         by_cases c43 : (IntKind.u64.wrap (x24_6)) ≥ (IntKind.u64.wrap (wrap64 (a2 - (x10_3.length : Int))))
                         ·rw [if_pos c43] at H
                          have c43b0 : decide ((IntKind.u64.wrap (wrap64 (a2 - (x10_3.length : Int)))) ≤ (IntKind.u64.wrap (x24_6))) = true := decide_eq_true c43
                          clear c43
                          (first | rw [c43b0] | (simp only [i64_w, i32_w]; rw [c43b0]) | skip)
                          by_cases c44 : 0 ≤ x24_6
                          ·rw [if_pos c44] at H
                           have c44b0 : decide (0 ≤ x24_6) = true := decide_eq_true c44
                           clear c44
                           have H' := Aside0.mk H
                           clear H
                           have p367 : 0 ≤ (x24_6 : Int) := of_decide_eq_true (by first | (with_reducible assumption) | assumption)
                           have q367 : x24_6 < (t360.length : Int) := of_decide_eq_true (by first | (with_reducible assumption) | assumption)
                           obtain ⟨ad367, e367, hx367_0⟩ := Kd.at_int (Kd.R_reads' HO_22.out).2.2 x24_6 p367 q367
                           cases e367
                           replace p367 := eq_true p367
                           replace q367 := eq_true q367
                           go_wp2
                           go_meet
                           case rel => exact ⟨_, (((rd t360 x24_6) != 0)), (by first | rfl | (simp; done) | (simp [*]; done)), H', ⟨by have := HJ3.out; have := HJ7.out; have := HK3.out; have := HJ13.out; have := HJ21.out; have := HK6.out; first | omega | exact Nat.le_refl _⟩, ⟨by (with_reducible repeat (first | apply Kd.R_alloc | apply Kd.R_drewN | apply Kd.R_drew)); exact HO_10.out⟩, ⟨by (with_reducible repeat (first | apply Kd.R_alloc | apply Kd.R_drewN | apply Kd.R_drew)); exact HO_11.out⟩, ⟨by (with_reducible repeat (first | apply Kd.R_alloc | apply Kd.R_drewN | apply Kd.R_drew)); exact HO_22.out⟩, ⟨by repeat (first | (with_reducible first | exact HB.out | apply below_alloc | apply pw_below_drewN | apply below_drew1) | exact HB.out)⟩⟩
                          ·rw [if_neg c44] at H
                           exact absurd H (by simp)
                         ·rw [if_neg c43] at H
                          have c43b0 : decide ((IntKind.u64.wrap (wrap64 (a2 - (x10_3.length : Int)))) ≤ (IntKind.u64.wrap (x24_6))) = false := decide_eq_false c43
                          clear c43
                          (first | rw [c43b0] | (simp only [i64_w, i32_w]; rw [c43b0]) | skip)
                          have H' := Aside0.mk H
                          clear H
                          go_wp2
                          go_meet
                          case rel => exact ⟨_, (false), (by first | rfl | (simp; done) | (simp [*]; done)), H', ⟨by have := HJ3.out; have := HJ7.out; have := HK3.out; have := HJ13.out; have := HJ21.out; have := HK6.out; first | omega | exact Nat.le_refl _⟩, ⟨by (with_reducible repeat (first | apply Kd.R_alloc | apply Kd.R_drewN | apply Kd.R_drew)); exact HO_10.out⟩, ⟨by (with_reducible repeat (first | apply Kd.R_alloc | apply Kd.R_drewN | apply Kd.R_drew)); exact HO_11.out⟩, ⟨by (with_reducible repeat (first | apply Kd.R_alloc | apply Kd.R_drewN | apply Kd.R_drew)); exact HO_22.out⟩, ⟨by repeat (first | (with_reducible first | exact HB.out | apply below_alloc | apply pw_below_drewN | apply below_drew1) | exact HB.out)⟩⟩
                        case rest =>
                         as_aux_lemma =>
                         clear HC41
                         try clear c1
                         try clear c2
                         try clear p2
                         try clear c3
                         try clear p3
                         try clear q3
                         try clear hx3
                         try clear c4
                         try clear c5
                         try clear c5b0
                         try clear c6
                         try clear c6b0
                         try clear p6
                         try clear c7
                         try clear c9
                         try clear c9b0
                         try clear c9b1
                         try clear c10
                         try clear c11
                         try clear c11b0
                         try clear c13
                         try clear c13b0
                         try clear c13b1
                         try clear c16
                         try clear c16b0
                         try clear c16b1
                         try clear c17
                         try clear c17b0
                         try clear c17b1
                         try clear c18
                         try clear c18b0
                         try clear c19
                         try clear c19b0
                         try clear c19b1
                         try clear c20
                         try clear c20b0
                         try clear c20b1
                         try clear c21
                         try clear c23
                         try clear c23b0
                         try clear c23b1
                         try clear c24
                         try clear c24b0
                         try clear c25
                         try clear c25b0
                         try clear c25b1
                         try clear c28
                         try clear c28b0
                         try clear c29
                         try clear c29b0
                         try clear c30
                         try clear c32
                         try clear c34
                         try clear c34b0
                         try clear c34b1
                         try clear c35
                         try clear c35b0
                         try clear c35b1
                         try clear c36
                         try clear c36b0
                         try clear c36b1
                         try clear p36
                         try clear q36
                         try clear hx36
                         try clear c40
                         try clear c40b0
                         try clear c42
                         try clear c43
                         try clear c43b0
                         try clear c44
                         try clear c44b0
                         try clear hx367_0
                         try clear p2
                         try clear p367
                         try clear p6
                         try clear q367
                         obtain ⟨kq, x163_40, rfl, HA, HJ40, HO_10, HO_11, HO_22, HB⟩ := hcut
                         cases kq with
                         | zero => exact absurd HA.out (by simp [marquetryref11_Part.j7])
                         | succ kj40 =>
                          have H := HA.out
                          clear HA
                          simp only [marquetryref11_Part.j7] at H
                          by_cases c45 : x163_40 = true
                          ·subst c45
                           have H1 : (some (([] : List Int), ([] : List (S110)), 0, 8)) = some (r1, r2, r3, r4) := by rw [if_pos rfl] at H; exact H
                           clear H
                           have H := H1
                           clear H1
                           simp only [Option.some.injEq, Prod.mk.injEq] at H
                           obtain ⟨rfl, rfl, rfl, rfl⟩ := H
                           go_wp2
                           refine bodyPost_ret (results_list (rs := [.tmp 6, .tmp 7, .tmp 8, .tmp 9]) rfl (by simp) (.tmp (.tmp (.tmp (.tmp .nil))))) rfl ?_
                           exact ⟨_, _, by first | rfl | (simp [errW_none, errW_some] <;> rfl) | (simp [*, errW_none, errW_some] <;> rfl), by first | exact Kd.R_nil _ _ _ _ _ | exact Kd.N_nil _ _ _ _ _ | exact Kd.V_nil _ _ _ _ _ | exact Kd.Q_nil _ _ _ _ _ | exact Kd.S_nil _ _ _ _ _, by first | exact Kd.R_nil _ _ _ _ _ | exact Kd.N_nil _ _ _ _ _ | exact Kd.V_nil _ _ _ _ _ | exact Kd.Q_nil _ _ _ _ _ | exact Kd.S_nil _ _ _ _ _, by repeat (first | (with_reducible first | exact HB.out | apply below_alloc | apply pw_below_drewN | apply below_drew1) | exact HB.out)⟩
                          ·replace c45 := Bool.eq_false_iff.mpr c45
                           subst c45
                           have H1 : (if (IntKind.u64.wrap (x24_6)) < (IntKind.u64.wrap (wrap64 (a2 - (x10_3.length : Int)))) then (if 0 ≤ x24_6 then (if x24_6 < (t360.length : Int) then (if x10_6.length < 17592186044416 then (marquetryref11_Part.l2 kj40 l0 a1 a2 (x10_6 ++ [wrap64 (rd t360 x24_6)]) x11_3 t348 (IntKind.u64.wrap (wrap64 (a2 - (x10_3.length : Int)))) (IntKind.u64.wrap (Int.tdiv t347 2)) x18_21 t360 (wrap64 (x24_6 + 1))) else (none)) else (none)) else (none)) else (marquetryref11_Part.l2 kj40 l0 a1 a2 x10_6 x11_3 t348 (IntKind.u64.wrap (wrap64 (a2 - (x10_3.length : Int)))) (IntKind.u64.wrap (Int.tdiv t347 2)) x18_21 t360 (wrap64 (x24_6 + 1)))) = some (r1, r2, r3, r4) := by rw [if_neg (show ¬ (false = true) by decide)] at H; exact H
                           clear H
                           have H := H1
                           clear H1
                           by_cases c46 : (IntKind.u64.wrap (x24_6)) < (IntKind.u64.wrap (wrap64 (a2 - (x10_3.length : Int))))
                           ·rw [if_pos c46] at H
                            have c46b0 : decide ((IntKind.u64.wrap (x24_6)) < (IntKind.u64.wrap (wrap64 (a2 - (x10_3.length : Int))))) = true := decide_eq_true c46
                            clear c46
                            by_cases c47 : 0 ≤ x24_6
                            ·rw [if_pos c47] at H
                             have c47b0 : decide (0 ≤ x24_6) = true := decide_eq_true c47
                             clear c47
                             by_cases c48 : x24_6 < (t360.length : Int)
                             ·rw [if_pos c48] at H
                              have c48b0 : decide (x24_6 < (t360.length : Int)) = true := decide_eq_true c48
                              clear c48
                              by_cases c49 : x10_6.length < 17592186044416
                              ·rw [if_pos c49] at H
                               have LMc49 := Aside0.mk c49
                               clear c49
                               obtain ⟨y369, hy369⟩ : ∃ y_ : List Int, y_ = (x10_6 ++ [wrap64 (rd t360 x24_6)]) := ⟨_, rfl⟩
                               replace H : (marquetryref11_Part.l2 kj40 l0 a1 a2 y369 x11_3 t348 (IntKind.u64.wrap (wrap64 (a2 - (x10_3.length : Int)))) (IntKind.u64.wrap (Int.tdiv t347 2)) x18_21 t360 (wrap64 (x24_6 + 1))) = some (r1, r2, r3, r4) := by first | (rw [hy369]; with_reducible exact H) | (have H2_ := (Option.bind_some _ _).symm.trans H; rw [hy369]; with_reducible exact H2_) | (have H2_ := (Option.bind_some _ _).symm.trans H; with_reducible exact H2_) | with_reducible exact H | (rw [hy369]; exact H) | exact H
                               have Ny369 := Aside0.mk hy369
                               clear hy369
                               have H' := Aside0.mk H
                               clear H
                               have p368 : 0 ≤ (x24_6 : Int) := of_decide_eq_true (by first | (with_reducible assumption) | assumption)
                               have q368 : x24_6 < (t360.length : Int) := of_decide_eq_true (by first | (with_reducible assumption) | assumption)
                               obtain ⟨ad368, e368, hx368_0⟩ := Kd.at_int (Kd.R_reads' HO_22.out).2.2 x24_6 p368 q368
                               cases e368
                               replace p368 := eq_true p368
                               replace q368 := eq_true q368
                               go_wp2_with (first | ((with_reducible refine gate_builtin (b := .append) (xs := #[.tmp 168, .tmp 174]) rfl ?_); at_builtin; refine Kd.R_append (Kd.int .i64) (w0 := w) w.heap.size rfl (.tmp 168) (.tmp 174) 23 3 (.int .i64 0) 8 rfl Try.underlying23 info3 rfl (by decide) (by omega) u10 x10_6 (wrap64 (rd t360 x24_6)) [.int .i64 (wrap64 (rd t360 x24_6))] (fun _ => True) (fun _ => False) rfl rfl ?aP (fun _ hk => hk.elim) ?aF ?aO ?aB ?aS ?aL ?_; (case aP => exact rfl); (case aB => exact (by repeat (first | (with_reducible first | exact HB.out | apply below_alloc | apply pw_below_drewN | apply below_drew1) | exact HB.out))); (case aF => exact (fun _ _ => trivial)); (case aO => exact (by (with_reducible repeat (first | apply Kd.R_alloc | apply Kd.R_drewN | apply Kd.R_drew)); exact HO_10.out)); (case aS => exact (below_size (by repeat (first | (with_reducible first | exact HB.out | apply below_alloc | apply pw_below_drewN | apply below_drew1) | exact HB.out)))); (case aL => have := LMc49.out; omega); intro v370 w50 ho hb hg hat; rw [← Ny369.out] at ho; have n0_ := Aside0.mk (Kd.R_over' (by (with_reducible repeat (first | apply Kd.R_alloc | apply Kd.R_drewN | apply Kd.R_drew)); exact HO_11.out) (Kd.R_typed (by (with_reducible repeat (first | apply Kd.R_alloc | apply Kd.R_drewN | apply Kd.R_drew)); exact HO_10.out)) (by decide) hg); have n1_ := Aside0.mk (Kd.R_over' (by (with_reducible repeat (first | apply Kd.R_alloc | apply Kd.R_drewN | apply Kd.R_drew)); exact HO_22.out) (Kd.R_typed (by (with_reducible repeat (first | apply Kd.R_alloc | apply Kd.R_drewN | apply Kd.R_drew)); exact HO_10.out)) (by decide) hg); have n2_ := Aside0.mk (hb); have n3_ := Aside0.mk (ho); clear HO_11; clear HO_22; clear HB; clear HO_10; have HO_11 := n0_; have HO_22 := n1_; have HB := n2_; have HO371 := n3_; clear n0_ n1_ n2_ n3_; clear ho hb hg hat))
                               go_roundg kj40
                               case measure => have := HJ3.out; have := HJ7.out; have := HK3.out; have := HJ13.out; have := HJ21.out; have := HK6.out; have := HJ40.out; omega
                               case rel => exact ⟨(y369), (wrap64 (x24_6 + 1)), (by first | rfl | (simp; done) | (simp [*]; done)), H', ⟨by have := HJ3.out; have := HJ7.out; have := HK3.out; have := HJ13.out; have := HJ21.out; have := HK6.out; have := HJ40.out; omega⟩, ⟨by (with_reducible repeat (first | apply Kd.R_alloc | apply Kd.R_drewN | apply Kd.R_drew)); exact HO371.out⟩, ⟨by (with_reducible repeat (first | apply Kd.R_alloc | apply Kd.R_drewN | apply Kd.R_drew)); exact HO_11.out⟩, ⟨by (with_reducible repeat (first | apply Kd.R_alloc | apply Kd.R_drewN | apply Kd.R_drew)); exact HO_22.out⟩, ⟨by repeat (first | (with_reducible first | exact HB.out | apply below_alloc | apply pw_below_drewN | apply below_drew1) | exact HB.out)⟩⟩
                              ·rw [if_neg c49] at H
                               exact absurd H (by simp)
                             ·rw [if_neg c48] at H
                              exact absurd H (by simp)
                            ·rw [if_neg c47] at H
                             exact absurd H (by simp)
                           ·rw [if_neg c46] at H
                            have c46b0 : decide ((IntKind.u64.wrap (x24_6)) < (IntKind.u64.wrap (wrap64 (a2 - (x10_3.length : Int))))) = false := decide_eq_false c46
                            clear c46
                            have H' := Aside0.mk H
                            clear H
                            go_wp2
                            go_roundg kj40
                            case measure => have := HJ3.out; have := HJ7.out; have := HK3.out; have := HJ13.out; have := HJ21.out; have := HK6.out; have := HJ40.out; omega
                            case rel => exact ⟨(x10_6), (wrap64 (x24_6 + 1)), (by first | rfl | (simp; done) | (simp [*]; done)), H', ⟨by have := HJ3.out; have := HJ7.out; have := HK3.out; have := HJ13.out; have := HJ21.out; have := HK6.out; have := HJ40.out; omega⟩, ⟨by (with_reducible repeat (first | apply Kd.R_alloc | apply Kd.R_drewN | apply Kd.R_drew)); exact HO_10.out⟩, ⟨by (with_reducible repeat (first | apply Kd.R_alloc | apply Kd.R_drewN | apply Kd.R_drew)); exact HO_11.out⟩, ⟨by (with_reducible repeat (first | apply Kd.R_alloc | apply Kd.R_drewN | apply Kd.R_drew)); exact HO_22.out⟩, ⟨by repeat (first | (with_reducible first | exact HB.out | apply below_alloc | apply pw_below_drewN | apply below_drew1) | exact HB.out)⟩⟩
                       ·rw [if_neg c40] at H
                        have c40b0 : decide (x24_6 < (t360.length : Int)) = false := decide_eq_false c40
                        clear c40
                        obtain ⟨ji51, hji51⟩ : ∃ j_ : Int, (mn (IntKind.u64.wrap (wrap64 (a2 - (x10_3.length : Int)))) (IntKind.u64.wrap (8 * (IntKind.u64.wrap (Int.tdiv t347 2))))) = j_ := ⟨_, rfl⟩
                        replace H : (if x11_3.length < 8796093022208 then (marquetryref11_Part.l0 k6 l0 a1 a2 x10_6 (x11_3 ++ [(⟨true, wrap64 (ji51)⟩ : S110)]) (wrap64 (t348 + x18_21))) else (none)) = some (r1, r2, r3, r4) := by first | (rw [hji51] at H; exact H) | (simp only [hji51] at H ⊢; exact H)
                        have hji51_ : (if (IntKind.u64.wrap (8 * (IntKind.u64.wrap (Int.tdiv t347 2)))) < (IntKind.u64.wrap (wrap64 (a2 - (x10_3.length : Int)))) then (IntKind.u64.wrap (8 * (IntKind.u64.wrap (Int.tdiv t347 2)))) else (IntKind.u64.wrap (wrap64 (a2 - (x10_3.length : Int))))) = ji51 := hji51
                        by_cases c52 : x11_3.length < 8796093022208
                        ·rw [if_pos c52] at H
                         have LMc52 := Aside0.mk c52
                         clear c52
                         obtain ⟨y364, hy364⟩ : ∃ y_ : List (S110), y_ = (x11_3 ++ [(⟨true, wrap64 (ji51)⟩ : S110)]) := ⟨_, rfl⟩
                         replace H : (marquetryref11_Part.l0 k6 l0 a1 a2 x10_6 y364 (wrap64 (t348 + x18_21))) = some (r1, r2, r3, r4) := by first | (rw [hy364]; with_reducible exact H) | (have H2_ := (Option.bind_some _ _).symm.trans H; rw [hy364]; with_reducible exact H2_) | (have H2_ := (Option.bind_some _ _).symm.trans H; with_reducible exact H2_) | with_reducible exact H | (rw [hy364]; exact H) | exact H
                         have Ny364 := Aside0.mk hy364
                         clear hy364
                         have H' := Aside0.mk H
                         clear H
                         obtain ⟨Ao53, co53, eo53⟩ := Kd.R_slice HO_22.out
                         subst eo53
                         go_wp2_with (first | ((with_reducible refine gate_builtin (b := .append) (xs := #[.tmp 176, .tmp 183]) rfl ?_); at_builtin; refine Kd.R_append k110 (w0 := w) w.heap.size rfl (.tmp 176) (.tmp 183) 73 110 (.agg #[(.bool false), (.int .i64 0)]) 16 rfl Try.underlying73 info110 rfl (by decide) (by omega) u11 x11_3 (⟨true, wrap64 (ji51)⟩ : S110) [.bool true, .int .i64 (wrap64 (ji51))] (fun _ => True) (fun _ => False) rfl rfl ?aP (fun _ hk => hk.elim) ?aF ?aO ?aB ?aS ?aL ?_; (case aP => exact k110_mkM _ _ _ (⟨true, wrap64 (ji51)⟩ : S110)); (case aB => exact (by repeat (first | (with_reducible first | exact HB.out | apply below_alloc | apply pw_below_drewN | apply below_drew1) | exact HB.out))); (case aF => exact (fun _ _ => trivial)); (case aO => exact (by (with_reducible repeat (first | apply Kd.R_alloc | apply Kd.R_drewN | apply Kd.R_drew)); exact HO_11.out)); (case aS => exact (below_size (by repeat (first | (with_reducible first | exact HB.out | apply below_alloc | apply pw_below_drewN | apply below_drew1) | exact HB.out)))); (case aL => have := LMc52.out; omega); intro v365 w54 ho hb hg hat; rw [← Ny364.out] at ho; have n0_ := Aside0.mk (Kd.R_over' (by (with_reducible repeat (first | apply Kd.R_alloc | apply Kd.R_drewN | apply Kd.R_drew)); exact HO_10.out) (Kd.R_typed (by (with_reducible repeat (first | apply Kd.R_alloc | apply Kd.R_drewN | apply Kd.R_drew)); exact HO_11.out)) (by decide) hg); have n1_ := Aside0.mk (Kd.R_over' (by (with_reducible repeat (first | apply Kd.R_alloc | apply Kd.R_drewN | apply Kd.R_drew)); exact HO_22.out) (Kd.R_typed (by (with_reducible repeat (first | apply Kd.R_alloc | apply Kd.R_drewN | apply Kd.R_drew)); exact HO_11.out)) (by decide) hg); have n2_ := Aside0.mk (hb); have n3_ := Aside0.mk (ho); clear HO_10; clear HO_22; clear HB; clear HO_11; have HO_10 := n0_; have HO_22 := n1_; have HB := n2_; have HO366 := n3_; clear n0_ n1_ n2_ n3_; clear ho hb hg hat))
                         go_roundg k6
                         case measure => have := HJ3.out; have := HJ7.out; have := HK3.out; have := HJ13.out; have := HJ21.out; have := HK6.out; omega
                         case rel => exact ⟨(x10_6), (y364), (wrap64 (t348 + x18_21)), (by first | rfl | (simp; done) | (simp [*]; done)), H', ⟨by have := HJ3.out; have := HJ7.out; have := HK3.out; have := HJ13.out; have := HJ21.out; have := HK6.out; omega⟩, ⟨by (with_reducible repeat (first | apply Kd.R_alloc | apply Kd.R_drewN | apply Kd.R_drew)); exact HO_10.out⟩, ⟨by (with_reducible repeat (first | apply Kd.R_alloc | apply Kd.R_drewN | apply Kd.R_drew)); exact HO366.out⟩, ⟨by repeat (first | (with_reducible first | exact HB.out | apply below_alloc | apply pw_below_drewN | apply below_drew1) | exact HB.out)⟩⟩
                        ·rw [if_neg c52] at H
                         exact absurd H (by simp)
                    ·rw [if_neg c36] at H
                     exact absurd H (by simp)
                   ·rw [if_neg c35] at H
                    exact absurd H (by simp)
                  ·rw [if_neg c34] at H
                   exact absurd H (by simp)
          ·rw [if_neg c13] at H
           have c13b0 : (t349 == 0) = false := beq_eq_false_iff_ne.mpr c13
           have c13b1 : (t349 != 0) = true := bne_iff_ne.mpr c13
           simp only [Option.some.injEq, Prod.mk.injEq] at H
           obtain ⟨rfl, rfl, rfl, rfl⟩ := H
           obtain ⟨Ao55, co55, eo55⟩ := Kd.R_slice HO_10.out
           subst eo55
           go_wp2_with (first | ((with_reducible refine gate_callee (f := 72) rfl ?_); refine goesL_ (some 49) rfl rfl Try.func72 (by kernel_rfl) rfl #[.slice A0 l0.length c0, .int .i64 x12_3] rfl (by (try simp only [List.map_toArray, List.map_cons, List.map_nil]); first | done | rfl | (simp only [List.length_drop, List.length_take]; rfl)) ?_; (with_reducible refine (marquetryref01_ReadVarint.calls k3 _ _ l0 x12_3 t347 t348 t349 _ ?side1 ?side2 A12.out).mono ?_); (case side1 => repeat (first | exact (Kd.C_below HR0.out HB.out) | (with_reducible refine Kd.C_alloc ?_ _) | (with_reducible refine Kd.C_drewN ?_ _) | (with_reducible refine Kd.C_drew ?_))); (case side2 => exact HC0.out); rintro e w' ⟨rfl, ⟨nd, rfl⟩⟩; refine ⟨_, rfl, ?_⟩))
           refine bodyPost_ret (results_list (rs := [.tmp 6, .tmp 7, .tmp 8, .tmp 9]) rfl (by simp) (.tmp (.tmp (.tmp (.tmp .nil))))) rfl ?_
           exact ⟨_, _, by first | rfl | (simp [errW_none, errW_some] <;> rfl) | (simp [*, errW_none, errW_some] <;> rfl), by first | exact Kd.R_nil _ _ _ _ _ | exact Kd.N_nil _ _ _ _ _ | exact Kd.V_nil _ _ _ _ _ | exact Kd.Q_nil _ _ _ _ _ | exact Kd.S_nil _ _ _ _ _, by first | exact Kd.R_nil _ _ _ _ _ | exact Kd.N_nil _ _ _ _ _ | exact Kd.V_nil _ _ _ _ _ | exact Kd.Q_nil _ _ _ _ _ | exact Kd.S_nil _ _ _ _ _, by repeat (first | (with_reducible first | exact HB.out | apply below_alloc | apply pw_below_drewN | apply below_drew1) | exact HB.out)⟩
         ·rw [if_neg c11] at H
          have c11b0 : decide ((x10_3.length : Int) < a2) = false := decide_eq_false c11
          clear c11
          simp only [Option.some.injEq, Prod.mk.injEq] at H
          obtain ⟨rfl, rfl, rfl, rfl⟩ := H
          obtain ⟨Ao56, co56, eo56⟩ := Kd.R_slice HO_10.out
          subst eo56
          go_wp2
          refine bodyPost_ret (results_list (rs := [.tmp 6, .tmp 7, .tmp 8, .tmp 9]) rfl (by simp) (.tmp (.tmp (.tmp (.tmp .nil))))) rfl ?_
          exact ⟨_, _, by first | rfl | (simp [errW_none, errW_some] <;> rfl) | (simp [*, errW_none, errW_some] <;> rfl), by (with_reducible repeat (first | apply Kd.R_alloc | apply Kd.R_drewN | apply Kd.R_drew)); exact HO_10.out, by (with_reducible repeat (first | apply Kd.R_alloc | apply Kd.R_drewN | apply Kd.R_drew)); exact HO_11.out, by repeat (first | (with_reducible first | exact HB.out | apply below_alloc | apply pw_below_drewN | apply below_drew1) | exact HB.out)⟩
end Go.Proofs.Ytpibhiacmceekaa.X
end

section
namespace Go.Proofs.Ytpibhiacmceekaa.X
open Go.RowKit Go.Proofs.YtpibhiacmceekaaW.PrintWords Go.Proofs.YtpibhiacmceekaaW.PrintLast Go.Proofs.YtpibhiacmceekaaW.PrintMore
attribute [local go_sem] max2_int min2_int max_two min_two max_three min_three max_four min_four
set_option linter.unusedVariables false
set_option linter.unusedSimpArgs false
def marquetryref11_Read.f (k : Nat) (l0 : List Int) (a1 : Int) (a2 : Int) : Option (List Int × (List (S110)) × Int) := (marquetryref11_Part.f k l0 a1 a2).bind fun bt372 => (if bt372.2.2.2 = 0 then (if bt372.2.2.1 < (l0.length : Int) then (some (([] : List Int), ([] : List (S110)), 7)) else (some (bt372.1, bt372.2.1, 0))) else (some (([] : List Int), ([] : List (S110)), bt372.2.2.2)))
theorem marquetryref11_Read.mono : ∀ a0 a1 a2 k, LeO (marquetryref11_Read.f k a0 a1 a2) (marquetryref11_Read.f (k + 1) a0 a1 a2) := by
 intro a0 a1 a2 k
 unfold marquetryref11_Read.f
 repeat' first
   | (with_reducible exact marquetryref11_Part.mono _ _ _ _)
   | (with_reducible exact LeO.refl _)
   | (with_reducible exact LeO.none _)
   | (with_reducible refine LeO.ite ?_ ?_)
   | (with_reducible refine LeO.bind ?_ (fun _ => ?_))
   | exact marquetryref11_Part.mono _ _ _ _
   | exact LeO.none _
   | refine LeO.ite ?_ ?_
   | refine LeO.bind ?_ (fun _ => ?_)
set_option maxHeartbeats 8000000 in
set_option maxRecDepth 100000 in
theorem marquetryref11_Read.calls (k : Nat) (A0 : Option Addr) (c0 : Nat) (l0 : List Int) (a1 : Int) (a2 : Int) (r1 : List Int) (r2 : List (S110)) (r3 : Int) (w : World) (hr0 : Kd.C (Kd.int .u8) w A0 l0.length l0) (hc0 : l0.length ≤ c0) (h : marquetryref11_Read.f k l0 a1 a2 = some (r1, r2, r3)) :
  Calls Try.prog 49 #[.slice A0 l0.length c0, .int .i64 a1, .int .i64 a2] w fun e w' => ∃ v0_ v1_ : Value, e = .returned (.tuple #[v0_, v1_, .int .i64 r3]) ∧ Kd.R (Kd.int .i64) 3 w' w.heap.size (fun _ => True) v0_ r1 ∧ Kd.R k110 110 w' w.heap.size (fun _ => True) v1_ r2 ∧ Below w.heap.size w w' := by
 have HR0 := Aside0.mk hr0
 have HC0 := Aside0.mk hc0
 clear hr0 hc0
 have HB := Aside0.mk (Below.refl w.heap.size w)
 have H : ((marquetryref11_Part.f k l0 a1 a2).bind fun bt372 => (if bt372.2.2.2 = 0 then (if bt372.2.2.1 < (l0.length : Int) then (some (([] : List Int), ([] : List (S110)), 7)) else (some (bt372.1, bt372.2.1, 0))) else (some (([] : List Int), ([] : List (S110)), bt372.2.2.2)))) = some (r1, r2, r3) := h
 clear h
 replace H := Option.bind_eq_some_iff.mp H
 obtain ⟨⟨t372, t373, t374, t375⟩, A40, H⟩ := H
 replace H : (if t375 = 0 then (if t374 < (l0.length : Int) then (some (([] : List Int), ([] : List (S110)), 7)) else (some (t372, t373, 0))) else (some (([] : List Int), ([] : List (S110)), t375))) = some (r1, r2, r3) := H
 have A4 := Aside0.mk A40
 clear A40
 by_cases c5 : t375 = 0
 ·rw [if_pos c5] at H
  have c5b0 : (t375 == 0) = true := beq_iff_eq.mpr c5
  have c5b1 : (t375 != 0) = false := bne_eq_false_iff_eq.mpr c5
  clear c5
  by_cases c6 : t374 < (l0.length : Int)
  ·rw [if_pos c6] at H
   have c6b0 : decide (t374 < (l0.length : Int)) = true := decide_eq_true c6
   clear c6
   simp only [Option.some.injEq, Prod.mk.injEq] at H
   obtain ⟨rfl, rfl, rfl⟩ := H
   go_enter Try.func49, Try.ntmps49
   go_wp2_with (first | ((with_reducible refine gate_callee (f := 62) rfl ?_); refine goesL_ (some 17) rfl rfl Try.func62 (by kernel_rfl) rfl #[.slice A0 l0.length c0, .int .i64 a1, .int .i64 a2] rfl (by (try simp only [List.map_toArray, List.map_cons, List.map_nil]); first | done | rfl | (simp only [List.length_drop, List.length_take]; rfl)) ?_; (with_reducible refine (marquetryref11_Part.calls k _ _ l0 a1 a2 t372 t373 t374 t375 _ ?side1 ?side2 A4.out).mono ?_); (case side1 => repeat (first | exact HR0.out | (with_reducible refine Kd.C_alloc ?_ _) | (with_reducible refine Kd.C_drewN ?_ _) | (with_reducible refine Kd.C_drew ?_))); (case side2 => exact HC0.out); rintro e w7 ⟨v376, v378, rfl, ho0, ho1, hb⟩; refine ⟨_, rfl, ?_⟩; have n0_ := Aside0.mk (Kd.R_lower ho0 (below_size (by repeat (first | (with_reducible first | exact HB.out | apply below_alloc | apply pw_below_drewN | apply below_drew1) | exact HB.out)))); have n1_ := Aside0.mk (Kd.R_lower ho1 (below_size (by repeat (first | (with_reducible first | exact HB.out | apply below_alloc | apply pw_below_drewN | apply below_drew1) | exact HB.out)))); have n2_ := Aside0.mk (below_step (by repeat (first | (with_reducible first | exact HB.out | apply below_alloc | apply pw_below_drewN | apply below_drew1) | exact HB.out)) hb); clear HB; have HO377 := n0_; have HO379 := n1_; have HB := n2_; clear n0_ n1_ n2_; (try clear hb); (try clear hb2); (try clear hk); (try clear hi); (try clear ho0); (try clear ho1)))
   go_ret3
   exact ⟨_, _, by first | rfl | (simp [errW_none, errW_some] <;> rfl) | (simp [*, errW_none, errW_some] <;> rfl), by first | exact Kd.R_nil _ _ _ _ _ | exact Kd.N_nil _ _ _ _ _ | exact Kd.V_nil _ _ _ _ _ | exact Kd.Q_nil _ _ _ _ _ | exact Kd.S_nil _ _ _ _ _, by first | exact Kd.R_nil _ _ _ _ _ | exact Kd.N_nil _ _ _ _ _ | exact Kd.V_nil _ _ _ _ _ | exact Kd.Q_nil _ _ _ _ _ | exact Kd.S_nil _ _ _ _ _, by repeat (first | (with_reducible first | exact HB.out | apply below_alloc | apply pw_below_drewN | apply below_drew1) | exact HB.out)⟩
  ·rw [if_neg c6] at H
   have c6b0 : decide (t374 < (l0.length : Int)) = false := decide_eq_false c6
   clear c6
   simp only [Option.some.injEq, Prod.mk.injEq] at H
   obtain ⟨rfl, rfl, rfl⟩ := H
   go_enter Try.func49, Try.ntmps49
   go_wp2_with (first | ((with_reducible refine gate_callee (f := 62) rfl ?_); refine goesL_ (some 17) rfl rfl Try.func62 (by kernel_rfl) rfl #[.slice A0 l0.length c0, .int .i64 a1, .int .i64 a2] rfl (by (try simp only [List.map_toArray, List.map_cons, List.map_nil]); first | done | rfl | (simp only [List.length_drop, List.length_take]; rfl)) ?_; (with_reducible refine (marquetryref11_Part.calls k _ _ l0 a1 a2 t372 t373 t374 t375 _ ?side1 ?side2 A4.out).mono ?_); (case side1 => repeat (first | exact HR0.out | (with_reducible refine Kd.C_alloc ?_ _) | (with_reducible refine Kd.C_drewN ?_ _) | (with_reducible refine Kd.C_drew ?_))); (case side2 => exact HC0.out); rintro e w8 ⟨v376, v378, rfl, ho0, ho1, hb⟩; refine ⟨_, rfl, ?_⟩; have n0_ := Aside0.mk (Kd.R_lower ho0 (below_size (by repeat (first | (with_reducible first | exact HB.out | apply below_alloc | apply pw_below_drewN | apply below_drew1) | exact HB.out)))); have n1_ := Aside0.mk (Kd.R_lower ho1 (below_size (by repeat (first | (with_reducible first | exact HB.out | apply below_alloc | apply pw_below_drewN | apply below_drew1) | exact HB.out)))); have n2_ := Aside0.mk (below_step (by repeat (first | (with_reducible first | exact HB.out | apply below_alloc | apply pw_below_drewN | apply below_drew1) | exact HB.out)) hb); clear HB; have HO377 := n0_; have HO379 := n1_; have HB := n2_; clear n0_ n1_ n2_; (try clear hb); (try clear hb2); (try clear hk); (try clear hi); (try clear ho0); (try clear ho1)))
   go_ret3
   exact ⟨_, _, by first | rfl | (simp [errW_none, errW_some] <;> rfl) | (simp [*, errW_none, errW_some] <;> rfl), by (with_reducible repeat (first | apply Kd.R_alloc | apply Kd.R_drewN | apply Kd.R_drew)); exact HO377.out, by (with_reducible repeat (first | apply Kd.R_alloc | apply Kd.R_drewN | apply Kd.R_drew)); exact HO379.out, by repeat (first | (with_reducible first | exact HB.out | apply below_alloc | apply pw_below_drewN | apply below_drew1) | exact HB.out)⟩
 ·rw [if_neg c5] at H
  have c5b0 : (t375 == 0) = false := beq_eq_false_iff_ne.mpr c5
  have c5b1 : (t375 != 0) = true := bne_iff_ne.mpr c5
  simp only [Option.some.injEq, Prod.mk.injEq] at H
  obtain ⟨rfl, rfl, rfl⟩ := H
  go_enter Try.func49, Try.ntmps49
  go_wp2_with (first | ((with_reducible refine gate_callee (f := 62) rfl ?_); refine goesL_ (some 17) rfl rfl Try.func62 (by kernel_rfl) rfl #[.slice A0 l0.length c0, .int .i64 a1, .int .i64 a2] rfl (by (try simp only [List.map_toArray, List.map_cons, List.map_nil]); first | done | rfl | (simp only [List.length_drop, List.length_take]; rfl)) ?_; (with_reducible refine (marquetryref11_Part.calls k _ _ l0 a1 a2 t372 t373 t374 t375 _ ?side1 ?side2 A4.out).mono ?_); (case side1 => repeat (first | exact HR0.out | (with_reducible refine Kd.C_alloc ?_ _) | (with_reducible refine Kd.C_drewN ?_ _) | (with_reducible refine Kd.C_drew ?_))); (case side2 => exact HC0.out); rintro e w9 ⟨v376, v378, rfl, ho0, ho1, hb⟩; refine ⟨_, rfl, ?_⟩; have n0_ := Aside0.mk (Kd.R_lower ho0 (below_size (by repeat (first | (with_reducible first | exact HB.out | apply below_alloc | apply pw_below_drewN | apply below_drew1) | exact HB.out)))); have n1_ := Aside0.mk (Kd.R_lower ho1 (below_size (by repeat (first | (with_reducible first | exact HB.out | apply below_alloc | apply pw_below_drewN | apply below_drew1) | exact HB.out)))); have n2_ := Aside0.mk (below_step (by repeat (first | (with_reducible first | exact HB.out | apply below_alloc | apply pw_below_drewN | apply below_drew1) | exact HB.out)) hb); clear HB; have HO377 := n0_; have HO379 := n1_; have HB := n2_; clear n0_ n1_ n2_; (try clear hb); (try clear hb2); (try clear hk); (try clear hi); (try clear ho0); (try clear ho1)))
  go_ret3
  exact ⟨_, _, by first | rfl | (simp [errW_none, errW_some] <;> rfl) | (simp [*, errW_none, errW_some] <;> rfl), by first | exact Kd.R_nil _ _ _ _ _ | exact Kd.N_nil _ _ _ _ _ | exact Kd.V_nil _ _ _ _ _ | exact Kd.Q_nil _ _ _ _ _ | exact Kd.S_nil _ _ _ _ _, by first | exact Kd.R_nil _ _ _ _ _ | exact Kd.N_nil _ _ _ _ _ | exact Kd.V_nil _ _ _ _ _ | exact Kd.Q_nil _ _ _ _ _ | exact Kd.S_nil _ _ _ _ _, by repeat (first | (with_reducible first | exact HB.out | apply below_alloc | apply pw_below_drewN | apply below_drew1) | exact HB.out)⟩
end Go.Proofs.Ytpibhiacmceekaa.X
end
