/- StringsWrites: texts of this seat in one (wip/merge.py): Sh, Si, Sj, X19, X20, X21, X1, X22. -/
import Derived.Test.YtcdephhplmcmjaaGStringsWrites1
import Derived.Test.YtcdephhplmcmjaaGStringsWrites2
import Derived.Test.YtcdephhplmcmjaaGStringsWrites0
section
namespace Go.Proofs.Ytcdephhplmcmjaa.X
open Go.RowKit Go.Proofs.YtcdephhplmcmjaaW.PrintWords Go.Proofs.YtcdephhplmcmjaaW.PrintLast Go.Proofs.YtcdephhplmcmjaaW.PrintMore
set_option linter.unusedVariables false
set_option linter.unusedSimpArgs false
def preT : List Int → List ByteArray → ByteArray → Int → Except Int (List ByteArray)
  | n :: k, s :: rest, last, sum => if 0 ≤ n ∧ n ≤ (last.size : Int) then (if sum + (n + (s.size : Int)) ≤ 1048576 then (match preT k rest (last.extract 0 n.toNat ++ s) (sum + (n + (s.size : Int))) with | .ok l => .ok ((last.extract 0 n.toNat ++ s) :: l) | .error x => .error x) else .error 3) else .error 8
  | _, _, _, _ => .ok []
def prefT (count : Int) (whole b : List Int) : Except Int (List ByteArray × List Int) :=
  match numsT count b with
  | .error x => .error x
  | .ok (k, r) => match textsT count r with
    | .error x => .error x
    | .ok (rest, r2) => match preT k rest ⟨#[]⟩ 0 with
      | .error x => .error x
      | .ok out => if (strOfNums (prefixesZ out).1).toList = (strOfNums (whole.take (whole.length - r2.length))).toList then .ok (out, r2) else .error 8
theorem preT_ok : ∀ (k : List Int) (rest : List ByteArray) (last : ByteArray) (sum : Int) (out : List ByteArray), preT k rest last sum = .ok out → 0 ≤ sum → sum ≤ 1048576 → sum + (totZ out : Int) ≤ 1048576 ∧ out.length ≤ k.length
  | [], rest, last, sum, out, h, h0, h1 => by
    rw [preT] at h
    · cases h; exact ⟨by simp [totZ]; omega, by simp⟩
    · intros; simp_all
  | n :: k, [], last, sum, out, h, h0, h1 => by
    rw [preT] at h
    · cases h; exact ⟨by simp [totZ]; omega, by simp⟩
    · intros; simp_all
  | n :: k, s :: rest, last, sum, out, h, h0, h1 => by
    rw [preT] at h
    split at h
    · rename_i c1
      split at h
      · rename_i c2
        cases hr : preT k rest (last.extract 0 n.toNat ++ s) (sum + (n + (s.size : Int))) with
        | error x => rw [hr] at h; cases h
        | ok l =>
          rw [hr] at h
          cases h
          obtain ⟨i1, i2⟩ := preT_ok k rest _ _ l hr (by omega) c2
          refine ⟨?_, by simp; omega⟩
          rw [totZ, ByteArray.size_append, ByteArray.size_extract]
          omega
      · cases h
    · cases h
theorem numsT_len {count : Int} {b l r : List Int} (h : numsT count b = .ok (l, r)) : (l.length : Int) = count ∧ l.length ≤ 65536 ∧ r.length ≤ b.length := by
  unfold numsT at h
  have := beginR_le (b := b) (l := (D13.beginR b).1) (n := (D13.beginR b).2.1) (x := (D13.beginR b).2.2) rfl
  split at h
  · split at h
    · rename_i c
      cases h
      exact ⟨c, this.2.2.1, by rw [List.length_drop]; omega⟩
    · cases h
  · cases h
theorem cutT_len : ∀ (l b : List Int), (cutT l b).1.length = l.length ∧ (cutT l b).2.length ≤ b.length ∧ ∀ s ∈ (cutT l b).1, s.size ≤ b.length
  | [], b => ⟨rfl, Nat.le_refl _, fun s hs => by cases hs⟩
  | n :: l, b => by
    obtain ⟨i1, i2, i3⟩ := cutT_len l (b.drop n.toNat)
    rw [List.length_drop] at i2 i3
    rw [cutT]
    refine ⟨by simp [i1], by simp only []; omega, fun s hs => ?_⟩
    rcases List.mem_cons.1 hs with rfl | hs
    · unfold strOfNums
      show (((b.take n.toNat).map _).toArray).size ≤ _
      simp
      omega
    · have := i3 s hs; omega
theorem textsT_len {count : Int} {b r : List Int} {l : List ByteArray} (h : textsT count b = .ok (l, r)) : (l.length : Int) = count ∧ r.length ≤ b.length ∧ ∀ s ∈ l, s.size ≤ b.length := by
  unfold textsT at h
  cases hn : numsT count b with
  | error x => rw [hn] at h; cases h
  | ok p =>
    obtain ⟨k, r1⟩ := p
    obtain ⟨h1, h2, h3⟩ := numsT_len hn
    rw [hn] at h
    simp only [] at h
    cases hs : sumT k 0 with
    | error x => rw [hs] at h; cases h
    | ok s =>
      rw [hs] at h
      simp only [] at h
      split at h
      · obtain ⟨i1, i2, i3⟩ := cutT_len k r1
        have he : cutT k r1 = (l, r) := by injection h
        rw [he] at i1 i2 i3
        exact ⟨by simp only [] at i1; omega, by simp only [] at i2; omega, fun s hs => by have := i3 s hs; omega⟩
      · cases h
def appT (out : List ByteArray) : Except Int (List ByteArray) → Except Int (List ByteArray)
  | .ok l => .ok (out ++ l)
  | .error x => .error x
theorem appT_nil (e : Except Int (List ByteArray)) : appT [] e = e := by cases e <;> rfl
theorem appT_step {out : List ByteArray} {y : ByteArray} {e res : Except Int (List ByteArray)} (h : appT out (match e with | .ok l => .ok (y :: l) | .error x => .error x) = res) : appT (out ++ [y]) e = res := by
  rw [← h]
  cases e with
  | ok l => show Except.ok ((out ++ [y]) ++ l) = Except.ok (out ++ y :: l); rw [List.append_assoc]; rfl
  | error x => rfl
theorem preT_nil (rest : List ByteArray) (last : ByteArray) (sum : Int) : preT [] rest last sum = .ok [] := by
  cases rest <;> rfl
set_option maxRecDepth 100000 in
set_option maxHeartbeats 8000000 in
theorem rd_prefixes (w0 : World) (g : Nat) (Aw : Option Addr) (cw : Nat) (count : Int) (whole b : List Int) (W : World) (hI : LfI w0 g (.slice Aw whole.length cw) (.int .i64 count) b W) (hCw : Kd.C (Kd.int .u8) w0 Aw whole.length whole) (hcw : whole.length ≤ cw) (hbw : b.length ≤ whole.length) :
    Calls Try.prog 38 #[.pointer (some ⟨g, 0, none⟩)] W (LfO w0 g (.slice Aw whole.length cw) (.int .i64 count) W (ownT W) (prefT count whole b)) := by
  have MO := Aside0.mk (fun why W => st_must_ok why W)
  have MN := Aside0.mk (fun why W => st_must_no why W)
  have HI := Aside0.mk hI
  have HN := Aside0.mk (fun Wz (h : LfI w0 g (.slice Aw whole.length cw) (.int .i64 count) b Wz) => left_numbers w0 g (.slice Aw whole.length cw) (.int .i64 count) count b Wz h)
  have HT := Aside0.mk (fun r Wz (h : LfI w0 g (.slice Aw whole.length cw) (.int .i64 count) r Wz) => left_texts w0 g (.slice Aw whole.length cw) (.int .i64 count) count r Wz h)
  have HCW := Aside0.mk hCw
  have H0W := Aside0.mk hI.below.size
  have HBL := Aside0.mk (show b.length ≤ 140737488355328 from by obtain ⟨_, _, _, _, _, _, _, _, h⟩ := hI; exact h)
  have q2 : W.cell? ⟨g, 2, none⟩ = some (.int .i64 count) := by obtain ⟨_, _, hg, _⟩ := hI; exact blk_cell hg 2
  clear hI hCw
  unfold prefT
  cases hn : numsT count b with
  | error x =>
    rw [hn] at HN
    clear hn
    simp only []
    go_enter Try.func38, Try.ntmps38
    go_wp2
    refine wp_region_held_drew (S := fun w' => w'.cell? ⟨g, 2, none⟩ = some (.int .i64 count)) (by kernel_rfl) (q2) (fun hHeld => ?_)
    refine anyH_named fun w3 hw3 => ?_
    have hHeld2 := hHeld
    rw [← hw3] at hHeld2
    clear hHeld
    have hHeld := hHeld2
    clear hHeld2
    have HI1 := Aside0.mk (show LfI w0 g (.slice Aw whole.length cw) (.int .i64 count) b w3 from by rw [hw3]; exact HI.out.keep (below_drew1 (Below.refl _ _)))
    have HG1 := Aside0.mk (show W.grownBy w3 (some g) from by rw [hw3]; exact grown_below (below_drew1 (Below.refl _ _)))
    clear hw3 q2 HI
    refine wpAnyH_take (i := 0) (oi := { dst := some 12, op := Op.move (Operand.tmp 0), type := 59, pos := "strings.go:141", after := #[], guard := none }) (v := .pointer (some ⟨g, 0, none⟩)) rfl (by kernel_rfl) (by kernel_rfl) (by kernel_rfl) (fun _ _ _ h => h) (Or.inl ⟨by rfl, ?_⟩) (by assumption) ?_
    · (intro w hSw; (try dsimp only at hSw); go_simp)
    try simp only [Act.put, List.setIfInBounds_toArray, List.set_cons_zero, List.set_cons_succ]
    refine wpAnyH_take (i := 1) (oi := { dst := some 13, op := Op.nilCheck (Operand.tmp 12), type := 0, pos := "strings.go:141", after := #[{ on := 0, ground := Ground.data }], guard := none }) (v := .pointer (some ⟨g, 0, none⟩)) rfl (by kernel_rfl) (by kernel_rfl) (by kernel_rfl) (fun _ _ _ h => h) (Or.inl ⟨by rfl, ?_⟩) (by assumption) ?_
    · (intro w hSw; (try dsimp only at hSw); go_simp)
    try simp only [Act.put, List.setIfInBounds_toArray, List.set_cons_zero, List.set_cons_succ]
    refine wpAnyH_take (i := 2) (oi := { dst := some 14, op := Op.fieldAddr 81 (Operand.tmp 13) 0, type := 0, pos := "strings.go:141", after := #[{ on := 1, ground := Ground.data }], guard := none }) (v := .pointer (some ⟨g, 0, none⟩)) rfl (by kernel_rfl) (by kernel_rfl) (by kernel_rfl) (fun _ _ _ h => h) (Or.inl ⟨by rfl, ?_⟩) (by assumption) ?_
    · (intro w hSw; (try dsimp only at hSw); go_simp)
    try simp only [Act.put, List.setIfInBounds_toArray, List.set_cons_zero, List.set_cons_succ]
    refine wpAnyH_take (i := 3) (oi := { dst := some 15, op := Op.move (Operand.tmp 0), type := 59, pos := "strings.go:141", after := #[], guard := none }) (v := .pointer (some ⟨g, 0, none⟩)) rfl (by kernel_rfl) (by kernel_rfl) (by kernel_rfl) (fun _ _ _ h => h) (Or.inl ⟨by rfl, ?_⟩) (by assumption) ?_
    · (intro w hSw; (try dsimp only at hSw); go_simp)
    try simp only [Act.put, List.setIfInBounds_toArray, List.set_cons_zero, List.set_cons_succ]
    refine wpAnyH_take (i := 4) (oi := { dst := some 16, op := Op.nilCheck (Operand.tmp 15), type := 0, pos := "strings.go:141", after := #[{ on := 3, ground := Ground.data }], guard := none }) (v := .pointer (some ⟨g, 0, none⟩)) rfl (by kernel_rfl) (by kernel_rfl) (by kernel_rfl) (fun _ _ _ h => h) (Or.inl ⟨by rfl, ?_⟩) (by assumption) ?_
    · (intro w hSw; (try dsimp only at hSw); go_simp)
    try simp only [Act.put, List.setIfInBounds_toArray, List.set_cons_zero, List.set_cons_succ]
    refine wpAnyH_take (i := 5) (oi := { dst := some 17, op := Op.fieldAddr 81 (Operand.tmp 16) 2, type := 0, pos := "strings.go:141", after := #[{ on := 4, ground := Ground.data }], guard := none }) (v := .pointer (some ⟨g, 2, none⟩)) rfl (by kernel_rfl) (by kernel_rfl) (by kernel_rfl) (fun _ _ _ h => h) (Or.inl ⟨by rfl, ?_⟩) (by assumption) ?_
    · (intro w hSw; (try dsimp only at hSw); go_simp)
    try simp only [Act.put, List.setIfInBounds_toArray, List.set_cons_zero, List.set_cons_succ]
    refine wpAnyH_take (i := 6) (oi := { dst := some 18, op := Op.load 3 (Operand.tmp 17), type := 3, pos := "strings.go:141", after := #[{ on := 5, ground := Ground.data }], guard := none }) (v := .int .i64 count) rfl (by kernel_rfl) (by kernel_rfl) (by kernel_rfl) (fun _ _ _ h => h) (Or.inl ⟨by rfl, ?_⟩) (by assumption) ?_
    · (intro w hSw; (try dsimp only at hSw); go_simp)
    try simp only [Act.put, List.setIfInBounds_toArray, List.set_cons_zero, List.set_cons_succ]
    refine wpAnyH_ready (rs := [7]) (by kernel_rfl) (by simp) ?_
    refine AllReadyH.cons (o := { dst := some 19, op := Op.call { callee := Callee.value (Operand.func 52), args := #[Operand.tmp 14, Operand.tmp 18], argTypes := #[79, 3] }, type := 44, pos := "strings.go:141", after := #[{ on := 2, ground := Ground.data }, { on := 6, ground := Ground.data }], guard := none }) rfl (fun K hK => ?_) ?_
    · go_simp
      go_at_call 52
      refine (HN.out _ HI1.out).mono ?_
      rintro e Wx ⟨hbx, hgx, hx⟩
      have hx : e = .panicked (sailP x) := hx
      subst hx
      exact ⟨rfl, hbx, grown_trans HG1.out hgx, rfl⟩
    exact AllReadyH.nil
  | ok p =>
    obtain ⟨k, r⟩ := p
    obtain ⟨hkc, hkl, hrb⟩ := numsT_len hn
    rw [hn] at HN
    replace HT := Aside0.mk (HT.out r)
    clear hn
    simp only []
    obtain ⟨res, hres⟩ : ∃ res, res = (match textsT count r with | .error x => .error x | .ok (rest, r2) => match preT k rest ⟨#[]⟩ 0 with | .error x => .error x | .ok out => if (strOfNums (prefixesZ out).1).toList = (strOfNums (whole.take (whole.length - r2.length))).toList then .ok (out, r2) else .error 8 : Except Int (List ByteArray × List Int)) := ⟨_, rfl⟩
    have HRES := Aside0.mk hres
    rw [← hres]
    clear hres
    go_enter Try.func38, Try.ntmps38
    go_wp2
    refine wp_region_held_drew (S := fun w' => w'.cell? ⟨g, 2, none⟩ = some (.int .i64 count)) (by kernel_rfl) (q2) (fun hHeld => ?_)
    refine anyH_named fun w3 hw3 => ?_
    have hHeld2 := hHeld
    rw [← hw3] at hHeld2
    clear hHeld
    have hHeld := hHeld2
    clear hHeld2
    have HI1 := Aside0.mk (show LfI w0 g (.slice Aw whole.length cw) (.int .i64 count) b w3 from by rw [hw3]; exact HI.out.keep (below_drew1 (Below.refl _ _)))
    have HG1 := Aside0.mk (show W.grownBy w3 (some g) from by rw [hw3]; exact grown_below (below_drew1 (Below.refl _ _)))
    clear hw3 q2 HI
    refine wpAnyH_take (i := 0) (oi := { dst := some 12, op := Op.move (Operand.tmp 0), type := 59, pos := "strings.go:141", after := #[], guard := none }) (v := .pointer (some ⟨g, 0, none⟩)) rfl (by kernel_rfl) (by kernel_rfl) (by kernel_rfl) (fun _ _ _ h => h) (Or.inl ⟨by rfl, ?_⟩) (by assumption) ?_
    · (intro w hSw; (try dsimp only at hSw); go_simp)
    try simp only [Act.put, List.setIfInBounds_toArray, List.set_cons_zero, List.set_cons_succ]
    refine wpAnyH_take (i := 1) (oi := { dst := some 13, op := Op.nilCheck (Operand.tmp 12), type := 0, pos := "strings.go:141", after := #[{ on := 0, ground := Ground.data }], guard := none }) (v := .pointer (some ⟨g, 0, none⟩)) rfl (by kernel_rfl) (by kernel_rfl) (by kernel_rfl) (fun _ _ _ h => h) (Or.inl ⟨by rfl, ?_⟩) (by assumption) ?_
    · (intro w hSw; (try dsimp only at hSw); go_simp)
    try simp only [Act.put, List.setIfInBounds_toArray, List.set_cons_zero, List.set_cons_succ]
    refine wpAnyH_take (i := 2) (oi := { dst := some 14, op := Op.fieldAddr 81 (Operand.tmp 13) 0, type := 0, pos := "strings.go:141", after := #[{ on := 1, ground := Ground.data }], guard := none }) (v := .pointer (some ⟨g, 0, none⟩)) rfl (by kernel_rfl) (by kernel_rfl) (by kernel_rfl) (fun _ _ _ h => h) (Or.inl ⟨by rfl, ?_⟩) (by assumption) ?_
    · (intro w hSw; (try dsimp only at hSw); go_simp)
    try simp only [Act.put, List.setIfInBounds_toArray, List.set_cons_zero, List.set_cons_succ]
    refine wpAnyH_take (i := 3) (oi := { dst := some 15, op := Op.move (Operand.tmp 0), type := 59, pos := "strings.go:141", after := #[], guard := none }) (v := .pointer (some ⟨g, 0, none⟩)) rfl (by kernel_rfl) (by kernel_rfl) (by kernel_rfl) (fun _ _ _ h => h) (Or.inl ⟨by rfl, ?_⟩) (by assumption) ?_
    · (intro w hSw; (try dsimp only at hSw); go_simp)
    try simp only [Act.put, List.setIfInBounds_toArray, List.set_cons_zero, List.set_cons_succ]
    refine wpAnyH_take (i := 4) (oi := { dst := some 16, op := Op.nilCheck (Operand.tmp 15), type := 0, pos := "strings.go:141", after := #[{ on := 3, ground := Ground.data }], guard := none }) (v := .pointer (some ⟨g, 0, none⟩)) rfl (by kernel_rfl) (by kernel_rfl) (by kernel_rfl) (fun _ _ _ h => h) (Or.inl ⟨by rfl, ?_⟩) (by assumption) ?_
    · (intro w hSw; (try dsimp only at hSw); go_simp)
    try simp only [Act.put, List.setIfInBounds_toArray, List.set_cons_zero, List.set_cons_succ]
    refine wpAnyH_take (i := 5) (oi := { dst := some 17, op := Op.fieldAddr 81 (Operand.tmp 16) 2, type := 0, pos := "strings.go:141", after := #[{ on := 4, ground := Ground.data }], guard := none }) (v := .pointer (some ⟨g, 2, none⟩)) rfl (by kernel_rfl) (by kernel_rfl) (by kernel_rfl) (fun _ _ _ h => h) (Or.inl ⟨by rfl, ?_⟩) (by assumption) ?_
    · (intro w hSw; (try dsimp only at hSw); go_simp)
    try simp only [Act.put, List.setIfInBounds_toArray, List.set_cons_zero, List.set_cons_succ]
    refine wpAnyH_take (i := 6) (oi := { dst := some 18, op := Op.load 3 (Operand.tmp 17), type := 3, pos := "strings.go:141", after := #[{ on := 5, ground := Ground.data }], guard := none }) (v := .int .i64 count) rfl (by kernel_rfl) (by kernel_rfl) (by kernel_rfl) (fun _ _ _ h => h) (Or.inl ⟨by rfl, ?_⟩) (by assumption) ?_
    · (intro w hSw; (try dsimp only at hSw); go_simp)
    try simp only [Act.put, List.setIfInBounds_toArray, List.set_cons_zero, List.set_cons_succ]
    refine wpAnyH_ready (rs := [7]) (by kernel_rfl) (by simp) ?_
    refine AllReadyH.cons (o := { dst := some 19, op := Op.call { callee := Callee.value (Operand.func 52), args := #[Operand.tmp 14, Operand.tmp 18], argTypes := #[79, 3] }, type := 44, pos := "strings.go:141", after := #[{ on := 2, ground := Ground.data }, { on := 6, ground := Ground.data }], guard := none }) rfl (fun K hK => ?_) ?_
    · go_simp
      go_at_call 52
      refine (HN.out _ HI1.out).mono ?_
      rintro e W1 ⟨hb1, hg1, vk, rfl, hI1, ho1⟩
      obtain ⟨Ak, ck, rfl⟩ := own_formD ho1
      have HGa := Aside0.mk (grown_trans HG1.out hg1)
      have HIa := Aside0.mk hI1
      have HRk := Aside0.mk (show Kd.R (Kd.int .i64) 2 W1 W.heap.size (fun _ => True) (.slice Ak k.length ck) k from Kd.R_of_own (enc := Value.int .i64) (h1 := fun _ => rfl) (own_monoW ho1 HG1.out.size) (fun _ _ => trivial))
      have q2 : W1.cell? ⟨g, 2, none⟩ = some (.int .i64 count) := by obtain ⟨_, _, hg, _⟩ := hI1; exact blk_cell hg 2
      clear hb1 hg1 hI1 ho1 HG1 HI1
      refine hK.out _ _ (q2) (fun hHeld2 => ?_)
      clear hK K hHeld
      have hHeld := hHeld2
      clear hHeld2
      try simp only [Act.put, List.setIfInBounds_toArray, List.set_cons_zero, List.set_cons_succ]
      refine wpAnyH_ready (rs := [8]) (by kernel_rfl) (by simp) ?_
      refine AllReadyH.cons (o := { dst := some 3, op := Op.assign (Operand.tmp 19), type := 44, pos := "strings.go:141", after := #[{ on := 7, ground := Ground.data }, { on := 7, ground := Ground.chain }, { on := 0, ground := Ground.phase }, { on := 1, ground := Ground.phase }, { on := 2, ground := Ground.phase }, { on := 3, ground := Ground.phase }, { on := 4, ground := Ground.phase }, { on := 5, ground := Ground.phase }, { on := 6, ground := Ground.phase }, { on := 7, ground := Ground.phase }], guard := none }) rfl (fun K hK => ?_) ?_
      · go_simp
        refine hK.out _ _ (q2) (fun hHeld2 => ?_)
        clear hK K hHeld
        have hHeld := hHeld2
        clear hHeld2
        try simp only [Act.put, List.setIfInBounds_toArray, List.set_cons_zero, List.set_cons_succ]
        refine wpAnyH_done (by kernel_rfl) ?_ _
        go_wp2
        cases htx : textsT count r with
        | error x =>
          rw [htx] at HT
          obtain rfl : res = .error x := by rw [HRES.out, htx]
          clear htx HRES
          refine wp_region_held_drew (S := fun w' => w'.cell? ⟨g, 2, none⟩ = some (.int .i64 count)) (by kernel_rfl) (q2) (fun hHeld => ?_)
          refine anyH_named fun w4 hw3 => ?_
          have hHeld2 := hHeld
          rw [← hw3] at hHeld2
          clear hHeld
          have hHeld := hHeld2
          clear hHeld2
          have HI2 := Aside0.mk (show LfI w0 g (.slice Aw whole.length cw) (.int .i64 count) r w4 from by rw [hw3]; exact HIa.out.keep (below_drew1 (Below.refl _ _)))
          have HG2 := Aside0.mk (show W.grownBy w4 (some g) from by rw [hw3]; exact grown_trans HGa.out (grown_below (below_drew1 (Below.refl _ _))))
          have HRl := Aside0.mk (show Kd.R (Kd.int .i64) 2 w4 W.heap.size (fun _ => True) (.slice Ak k.length ck) k from by rw [hw3]; exact Kd.R_drew HRk.out)
          have HSz := Aside0.mk (show W.heap.size ≤ w4.heap.size from HG2.out.size)
          clear hw3 q2 HIa HGa HRk
          refine wpAnyH_take (i := 0) (oi := { dst := some 20, op := Op.move (Operand.tmp 0), type := 59, pos := "strings.go:142", after := #[], guard := none }) (v := .pointer (some ⟨g, 0, none⟩)) rfl (by kernel_rfl) (by kernel_rfl) (by kernel_rfl) (fun _ _ _ h => h) (Or.inl ⟨by rfl, ?_⟩) (by assumption) ?_
          · (intro w hSw; (try dsimp only at hSw); go_simp)
          try simp only [Act.put, List.setIfInBounds_toArray, List.set_cons_zero, List.set_cons_succ]
          refine wpAnyH_take (i := 1) (oi := { dst := some 21, op := Op.nilCheck (Operand.tmp 20), type := 0, pos := "strings.go:142", after := #[{ on := 0, ground := Ground.data }], guard := none }) (v := .pointer (some ⟨g, 0, none⟩)) rfl (by kernel_rfl) (by kernel_rfl) (by kernel_rfl) (fun _ _ _ h => h) (Or.inl ⟨by rfl, ?_⟩) (by assumption) ?_
          · (intro w hSw; (try dsimp only at hSw); go_simp)
          try simp only [Act.put, List.setIfInBounds_toArray, List.set_cons_zero, List.set_cons_succ]
          refine wpAnyH_take (i := 2) (oi := { dst := some 22, op := Op.fieldAddr 81 (Operand.tmp 21) 0, type := 0, pos := "strings.go:142", after := #[{ on := 1, ground := Ground.data }], guard := none }) (v := .pointer (some ⟨g, 0, none⟩)) rfl (by kernel_rfl) (by kernel_rfl) (by kernel_rfl) (fun _ _ _ h => h) (Or.inl ⟨by rfl, ?_⟩) (by assumption) ?_
          · (intro w hSw; (try dsimp only at hSw); go_simp)
          try simp only [Act.put, List.setIfInBounds_toArray, List.set_cons_zero, List.set_cons_succ]
          refine wpAnyH_take (i := 3) (oi := { dst := some 23, op := Op.move (Operand.tmp 0), type := 59, pos := "strings.go:142", after := #[], guard := none }) (v := .pointer (some ⟨g, 0, none⟩)) rfl (by kernel_rfl) (by kernel_rfl) (by kernel_rfl) (fun _ _ _ h => h) (Or.inl ⟨by rfl, ?_⟩) (by assumption) ?_
          · (intro w hSw; (try dsimp only at hSw); go_simp)
          try simp only [Act.put, List.setIfInBounds_toArray, List.set_cons_zero, List.set_cons_succ]
          refine wpAnyH_take (i := 4) (oi := { dst := some 24, op := Op.nilCheck (Operand.tmp 23), type := 0, pos := "strings.go:142", after := #[{ on := 3, ground := Ground.data }], guard := none }) (v := .pointer (some ⟨g, 0, none⟩)) rfl (by kernel_rfl) (by kernel_rfl) (by kernel_rfl) (fun _ _ _ h => h) (Or.inl ⟨by rfl, ?_⟩) (by assumption) ?_
          · (intro w hSw; (try dsimp only at hSw); go_simp)
          try simp only [Act.put, List.setIfInBounds_toArray, List.set_cons_zero, List.set_cons_succ]
          refine wpAnyH_take (i := 5) (oi := { dst := some 25, op := Op.fieldAddr 81 (Operand.tmp 24) 2, type := 0, pos := "strings.go:142", after := #[{ on := 4, ground := Ground.data }], guard := none }) (v := .pointer (some ⟨g, 2, none⟩)) rfl (by kernel_rfl) (by kernel_rfl) (by kernel_rfl) (fun _ _ _ h => h) (Or.inl ⟨by rfl, ?_⟩) (by assumption) ?_
          · (intro w hSw; (try dsimp only at hSw); go_simp)
          try simp only [Act.put, List.setIfInBounds_toArray, List.set_cons_zero, List.set_cons_succ]
          refine wpAnyH_take (i := 6) (oi := { dst := some 26, op := Op.load 3 (Operand.tmp 25), type := 3, pos := "strings.go:142", after := #[{ on := 5, ground := Ground.data }], guard := none }) (v := .int .i64 count) rfl (by kernel_rfl) (by kernel_rfl) (by kernel_rfl) (fun _ _ _ h => h) (Or.inl ⟨by rfl, ?_⟩) (by assumption) ?_
          · (intro w hSw; (try dsimp only at hSw); go_simp)
          try simp only [Act.put, List.setIfInBounds_toArray, List.set_cons_zero, List.set_cons_succ]
          refine wpAnyH_ready (rs := [7]) (by kernel_rfl) (by simp) ?_
          refine AllReadyH.cons (o := { dst := some 27, op := Op.call { callee := Callee.value (Operand.func 51), args := #[Operand.tmp 22, Operand.tmp 26], argTypes := #[79, 3] }, type := 22, pos := "strings.go:142", after := #[{ on := 2, ground := Ground.data }, { on := 6, ground := Ground.data }], guard := none }) rfl (fun K hK => ?_) ?_
          · go_simp
            go_at_call 51
            refine (HT.out _ HI2.out).mono ?_
            rintro e Wx ⟨hbx, hgx, hx⟩
            have hx : e = .panicked (sailP x) := hx
            subst hx
            exact ⟨rfl, hbx, grown_trans HG2.out hgx, rfl⟩
          exact AllReadyH.nil
        | ok p2 =>
          obtain ⟨rest, r2⟩ := p2
          obtain ⟨hrl, hr2, hrs⟩ := textsT_len htx
          rw [htx] at HT
          have HRES2 := Aside0.mk (show res = (match preT k rest ⟨#[]⟩ 0 with | .error x => .error x | .ok out => if (strOfNums (prefixesZ out).1).toList = (strOfNums (whole.take (whole.length - r2.length))).toList then .ok (out, r2) else .error 8 : Except Int (List ByteArray × List Int)) from by rw [HRES.out, htx])
          clear htx HRES
          refine wp_region_held_drew (S := fun w' => w'.cell? ⟨g, 2, none⟩ = some (.int .i64 count)) (by kernel_rfl) (q2) (fun hHeld => ?_)
          refine anyH_named fun w4 hw3 => ?_
          have hHeld2 := hHeld
          rw [← hw3] at hHeld2
          clear hHeld
          have hHeld := hHeld2
          clear hHeld2
          have HI2 := Aside0.mk (show LfI w0 g (.slice Aw whole.length cw) (.int .i64 count) r w4 from by rw [hw3]; exact HIa.out.keep (below_drew1 (Below.refl _ _)))
          have HG2 := Aside0.mk (show W.grownBy w4 (some g) from by rw [hw3]; exact grown_trans HGa.out (grown_below (below_drew1 (Below.refl _ _))))
          have HRl := Aside0.mk (show Kd.R (Kd.int .i64) 2 w4 W.heap.size (fun _ => True) (.slice Ak k.length ck) k from by rw [hw3]; exact Kd.R_drew HRk.out)
          have HSz := Aside0.mk (show W.heap.size ≤ w4.heap.size from HG2.out.size)
          clear hw3 q2 HIa HGa HRk
          refine wpAnyH_take (i := 0) (oi := { dst := some 20, op := Op.move (Operand.tmp 0), type := 59, pos := "strings.go:142", after := #[], guard := none }) (v := .pointer (some ⟨g, 0, none⟩)) rfl (by kernel_rfl) (by kernel_rfl) (by kernel_rfl) (fun _ _ _ h => h) (Or.inl ⟨by rfl, ?_⟩) (by assumption) ?_
          · (intro w hSw; (try dsimp only at hSw); go_simp)
          try simp only [Act.put, List.setIfInBounds_toArray, List.set_cons_zero, List.set_cons_succ]
          refine wpAnyH_take (i := 1) (oi := { dst := some 21, op := Op.nilCheck (Operand.tmp 20), type := 0, pos := "strings.go:142", after := #[{ on := 0, ground := Ground.data }], guard := none }) (v := .pointer (some ⟨g, 0, none⟩)) rfl (by kernel_rfl) (by kernel_rfl) (by kernel_rfl) (fun _ _ _ h => h) (Or.inl ⟨by rfl, ?_⟩) (by assumption) ?_
          · (intro w hSw; (try dsimp only at hSw); go_simp)
          try simp only [Act.put, List.setIfInBounds_toArray, List.set_cons_zero, List.set_cons_succ]
          refine wpAnyH_take (i := 2) (oi := { dst := some 22, op := Op.fieldAddr 81 (Operand.tmp 21) 0, type := 0, pos := "strings.go:142", after := #[{ on := 1, ground := Ground.data }], guard := none }) (v := .pointer (some ⟨g, 0, none⟩)) rfl (by kernel_rfl) (by kernel_rfl) (by kernel_rfl) (fun _ _ _ h => h) (Or.inl ⟨by rfl, ?_⟩) (by assumption) ?_
          · (intro w hSw; (try dsimp only at hSw); go_simp)
          try simp only [Act.put, List.setIfInBounds_toArray, List.set_cons_zero, List.set_cons_succ]
          refine wpAnyH_take (i := 3) (oi := { dst := some 23, op := Op.move (Operand.tmp 0), type := 59, pos := "strings.go:142", after := #[], guard := none }) (v := .pointer (some ⟨g, 0, none⟩)) rfl (by kernel_rfl) (by kernel_rfl) (by kernel_rfl) (fun _ _ _ h => h) (Or.inl ⟨by rfl, ?_⟩) (by assumption) ?_
          · (intro w hSw; (try dsimp only at hSw); go_simp)
          try simp only [Act.put, List.setIfInBounds_toArray, List.set_cons_zero, List.set_cons_succ]
          refine wpAnyH_take (i := 4) (oi := { dst := some 24, op := Op.nilCheck (Operand.tmp 23), type := 0, pos := "strings.go:142", after := #[{ on := 3, ground := Ground.data }], guard := none }) (v := .pointer (some ⟨g, 0, none⟩)) rfl (by kernel_rfl) (by kernel_rfl) (by kernel_rfl) (fun _ _ _ h => h) (Or.inl ⟨by rfl, ?_⟩) (by assumption) ?_
          · (intro w hSw; (try dsimp only at hSw); go_simp)
          try simp only [Act.put, List.setIfInBounds_toArray, List.set_cons_zero, List.set_cons_succ]
          refine wpAnyH_take (i := 5) (oi := { dst := some 25, op := Op.fieldAddr 81 (Operand.tmp 24) 2, type := 0, pos := "strings.go:142", after := #[{ on := 4, ground := Ground.data }], guard := none }) (v := .pointer (some ⟨g, 2, none⟩)) rfl (by kernel_rfl) (by kernel_rfl) (by kernel_rfl) (fun _ _ _ h => h) (Or.inl ⟨by rfl, ?_⟩) (by assumption) ?_
          · (intro w hSw; (try dsimp only at hSw); go_simp)
          try simp only [Act.put, List.setIfInBounds_toArray, List.set_cons_zero, List.set_cons_succ]
          refine wpAnyH_take (i := 6) (oi := { dst := some 26, op := Op.load 3 (Operand.tmp 25), type := 3, pos := "strings.go:142", after := #[{ on := 5, ground := Ground.data }], guard := none }) (v := .int .i64 count) rfl (by kernel_rfl) (by kernel_rfl) (by kernel_rfl) (fun _ _ _ h => h) (Or.inl ⟨by rfl, ?_⟩) (by assumption) ?_
          · (intro w hSw; (try dsimp only at hSw); go_simp)
          try simp only [Act.put, List.setIfInBounds_toArray, List.set_cons_zero, List.set_cons_succ]
          refine wpAnyH_ready (rs := [7]) (by kernel_rfl) (by simp) ?_
          refine AllReadyH.cons (o := { dst := some 27, op := Op.call { callee := Callee.value (Operand.func 51), args := #[Operand.tmp 22, Operand.tmp 26], argTypes := #[79, 3] }, type := 22, pos := "strings.go:142", after := #[{ on := 2, ground := Ground.data }, { on := 6, ground := Ground.data }], guard := none }) rfl (fun K hK => ?_) ?_
          · go_simp
            go_at_call 51
            refine (HT.out _ HI2.out).mono ?_
            rintro e W2 ⟨hb2, hg2, vr, rfl, hI2, ho2⟩
            obtain ⟨Ar, cr, rfl⟩ := Kd.R_slice ho2
            have HGb := Aside0.mk (grown_trans HG2.out hg2)
            have HIb := Aside0.mk hI2
            have HRr := Aside0.mk (show Kd.string.R 9 W2 W.heap.size (fun _ => True) (.slice Ar rest.length cr) rest from Kd.R_lower ho2 HSz.out)
            have HRm := Aside0.mk (show Kd.R (Kd.int .i64) 2 W2 W.heap.size (fun _ => True) (.slice Ak k.length ck) k from R_still HRl.out (fun j q cells hq hj hc => hg2.block j (blk_lt hc) (fun he => by
              have he : j = g := Option.some.inj he
              subst he
              obtain ⟨_, _, hgc, _⟩ := HI2.out
              rw [hgc] at hc
              cases hc
              revert hq
              decide)))
            have q2 : W2.cell? ⟨g, 2, none⟩ = some (.int .i64 count) := by obtain ⟨_, _, hg, _⟩ := hI2; exact blk_cell hg 2
            clear hb2 hg2 hI2 ho2 HG2 HI2 HRl HSz
            refine hK.out _ _ (q2) (fun hHeld2 => ?_)
            clear hK K hHeld
            have hHeld := hHeld2
            clear hHeld2
            try simp only [Act.put, List.setIfInBounds_toArray, List.set_cons_zero, List.set_cons_succ]
            refine wpAnyH_ready (rs := [8]) (by kernel_rfl) (by simp) ?_
            refine AllReadyH.cons (o := { dst := some 4, op := Op.assign (Operand.tmp 27), type := 22, pos := "strings.go:142", after := #[{ on := 7, ground := Ground.data }, { on := 7, ground := Ground.chain }, { on := 0, ground := Ground.phase }, { on := 1, ground := Ground.phase }, { on := 2, ground := Ground.phase }, { on := 3, ground := Ground.phase }, { on := 4, ground := Ground.phase }, { on := 5, ground := Ground.phase }, { on := 6, ground := Ground.phase }, { on := 7, ground := Ground.phase }], guard := none }) rfl (fun K hK => ?_) ?_
            · go_simp
              refine hK.out _ _ (q2) (fun hHeld2 => ?_)
              clear hK K hHeld
              have hHeld := hHeld2
              clear hHeld2
              try simp only [Act.put, List.setIfInBounds_toArray, List.set_cons_zero, List.set_cons_succ]
              refine wpAnyH_done (by kernel_rfl) ?_ _
              have hkr : k.length = rest.length := by omega
              have HKR := Aside0.mk hkr
              have HSZR := Aside0.mk (show ∀ s ∈ rest, s.size ≤ 140737488355328 from fun s hs => by
                have h1 := hrs s hs
                have := HBL.out
                omega)
              have HRB := Aside0.mk (show r2.length ≤ whole.length from by omega)
              have HRq := Aside0.mk (show Kd.string.R 9 W2 W.heap.size (fun j => (Value.slice Ar rest.length cr).ownBlock = some j) (.slice Ar rest.length cr) rest from Kd.R_of_own (enc := Value.string) (h1 := fun _ => rfl) (Kd.own_of_R (enc := Value.string) (h1 := fun _ => rfl) HRr.out) (fun j hj => hj))
              have HSW := Aside0.mk (show W.heap.size ≤ W2.heap.size from HGb.out.size)
              clear hkr hrs hrl hr2 hrb hkc hHeld q2 HRr
              go_upto_block 0 with fail
              go_cut [5] from 31 (fun v5 wx => ∃ out, Aside0 (preT k rest ⟨#[]⟩ 0 = .ok out) ∧ Aside0 (LfI w0 g (.slice Aw whole.length cw) (.int .i64 count) r2 wx) ∧ Aside0 (W.grownBy wx (some g)) ∧ Aside0 (Kd.string.R 9 wx W.heap.size (fun _ => True) v5 out))
              case first =>
                go_wp2
                go_loopw [5, 6, 7, 30] (fun v5 v6 v7 v30 wr => ∃ (i : Nat) (out : List ByteArray) (last : ByteArray) (sum : Int), v30 = .int .i64 i ∧ v6 = .string last ∧ v7 = .int .i64 sum ∧ i ≤ k.length ∧ 0 ≤ sum ∧ sum ≤ 1048576 ∧ last.size ≤ 1048576 ∧ Aside0 (appT out (preT (k.drop i) (rest.drop i) last sum) = preT k rest ⟨#[]⟩ 0) ∧ Aside0 (out.length = i) ∧ Aside0 (LfI w0 g (.slice Aw whole.length cw) (.int .i64 count) r2 wr) ∧ Aside0 (W.grownBy wr (some g)) ∧ Aside0 (Kd.string.R 9 wr W.heap.size (fun j => some j ≠ (Value.slice Ar rest.length cr).ownBlock) v5 out) ∧ Aside0 (∀ j, (Value.slice Ar rest.length cr).ownBlock = some j → wr.heap[j]? = W2.heap[j]?) ∧ Aside0 (Kd.R (Kd.int .i64) 2 wr W.heap.size (fun _ => True) (.slice Ak k.length ck) k) ∧ Aside0 (W2.heap.size ≤ wr.heap.size)) (fun _ _ _ v30 _ => 70000 - (intOf v30).toNat)
                case atStart => exact ⟨0, [], ⟨#[]⟩, 0, rfl, rfl, rfl, by omega, by omega, by omega, by decide, ⟨by rw [List.drop_zero, List.drop_zero]; exact appT_nil _⟩, ⟨rfl⟩, HIb, HGb, ⟨Kd.R_nil _ _ _ _ _⟩, ⟨fun _ _ => rfl⟩, HRm, ⟨Nat.le_refl _⟩⟩
                case round =>
                  clear HIb HGb HRm
                  obtain ⟨i, out, last, sum, rfl, rfl, rfl, hi, hs0, hs1, hls, HAP, HOL, HI, HG, HO, HFX, HRm, HSW2⟩ := hrel
                  have hw1 : IntKind.i64.wrap ((i : Int) + 1) = (i : Int) + 1 := IntWalk.i64_in _ (by omega)
                  by_cases ci : i < k.length
                  · have q1 : decide ((i : Int) < (k.length : Int)) = true := decide_eq_true (by omega)
                    have q2 : decide (i < k.length) = true := decide_eq_true ci
                    obtain ⟨x, hx⟩ : ∃ x, k[i]? = some x := ⟨_, List.getElem?_eq_getElem ci⟩
                    obtain ⟨s, hs⟩ : ∃ s, rest[i]? = some s := ⟨_, List.getElem?_eq_getElem (by have := HKR.out; omega)⟩
                    have hap := HAP.out
                    rw [drop_at hx, drop_at hs, preT] at hap
                    have hss := HSZR.out s (List.mem_of_getElem? hs)
                    obtain ⟨ad, rfl, hcell⟩ := num_at (Kd.R_reads' HRm.out).2.2 hx
                    have HRw := Aside0.mk (show Kd.string.R 9 wr W.heap.size (fun j => (Value.slice Ar rest.length cr).ownBlock = some j) (.slice Ar rest.length cr) rest from Kd.R_move HRq.out HFX.out)
                    obtain ⟨adr, har, hcelr⟩ := str_at (Kd.R_reads' HRw.out).2.2 hs
                    subst har
                    have p1 : (0 : Int) ≤ (i : Int) := by omega
                    have p2 : (i : Int) < (k.length : Int) := by omega
                    have p2b : (i : Int) < (rest.length : Int) := by have := HKR.out; omega
                    have p3 : ((i : Int)).toNat = i := rfl
                    have Hi := Aside0.mk ci
                    by_cases c0 : 0 ≤ x
                    · have q3 : decide (x ≥ 0) = true := decide_eq_true c0
                      by_cases c1 : x ≤ (last.size : Int)
                      · have q4 : decide (x ≤ (last.size : Int)) = true := decide_eq_true c1
                        rw [if_pos ⟨c0, c1⟩] at hap
                        have hw2 : IntKind.i64.wrap (x + (s.size : Int)) = x + (s.size : Int) := IntWalk.i64_in _ (by omega)
                        have hw3 : IntKind.i64.wrap (sum + (x + (s.size : Int))) = sum + (x + (s.size : Int)) := IntWalk.i64_in _ (by omega)
                        by_cases c2 : sum + (x + (s.size : Int)) ≤ 1048576
                        · have q5 : decide (sum + (x + (s.size : Int)) ≤ 1048576) = true := decide_eq_true c2
                          rw [if_pos c2] at hap
                          have HAP2 := Aside0.mk (appT_step hap)
                          obtain ⟨y, hy⟩ : ∃ y, y = last.extract 0 x.toNat ++ s := ⟨_, rfl⟩
                          have HSB := Aside0.mk (show 0 ≤ sum + (x + (s.size : Int)) ∧ sum + (x + (s.size : Int)) ≤ 1048576 ∧ y.size ≤ 1048576 from ⟨by omega, c2, by rw [hy, ByteArray.size_append, ByteArray.size_extract]; omega⟩)
                          rw [← hy] at HAP2
                          have HY := Aside0.mk hy
                          have hsz : (last.extract 0 x.toNat).size + s.size ≤ 9223372036854775807 := by rw [ByteArray.size_extract]; omega
                          have hadd : ∀ W : World, (Op.stringOp .add (last.extract 0 x.toNat) s).run Try.prog W = .ok (.string y) W := fun W => by rw [hy]; exact run_string_add_sum W _ _ hsz
                          have HFR := Aside0.mk (show ∀ j, wr.heap.size ≤ j → some j ≠ (Value.slice (some adr) rest.length cr).ownBlock from fun j hj he => by
                            have := Kd.R_lt HRw.out j he.symm
                            omega)
                          clear hx hs hap hss hs0 hs1 hls c2 hi ci HAP hy
                          go_wp2_with fail
                          refine (MO.out _ _).mono ?_
                          rintro e W3 ⟨⟨v3, rfl⟩, hz⟩
                          have hz := hz.symm
                          subst hz
                          go_wp2_with fail
                          refine (MO.out _ _).mono ?_
                          rintro e W4 ⟨⟨v4, rfl⟩, hz⟩
                          have hz := hz.symm
                          subst hz
                          go_wp2_with fail
                          go_quiet (fail)
                          obtain ⟨W5, hW5⟩ : ∃ W5, W5 = wr.drewN nq := ⟨_, rfl⟩
                          rw [← hW5]
                          have hb5 : Below wr.heap.size wr W5 := by rw [hW5]; exact pw_below_drewN (Below.refl _ _) _
                          have HI5 := Aside0.mk (HI.out.keep hb5)
                          have HG5 := Aside0.mk (grown_trans HG.out (grown_below hb5))
                          have HO5 := Aside0.mk (Kd.R_below HO.out hb5)
                          have HFX5 := Aside0.mk (show ∀ j, (Value.slice (some adr) rest.length cr).ownBlock = some j → W5.heap[j]? = W2.heap[j]? from fun j hj => by rw [hW5]; exact HFX.out j hj)
                          have HRm5 := Aside0.mk (Kd.R_below HRm.out hb5)
                          have HSW5 := Aside0.mk (show W2.heap.size ≤ W5.heap.size from Nat.le_trans HSW2.out hb5.size)
                          have HFR5 := Aside0.mk (show ∀ j, W5.heap.size ≤ j → some j ≠ (Value.slice (some adr) rest.length cr).ownBlock from fun j hj => HFR.out j (Nat.le_trans hb5.size hj))
                          clear hW5 hb5 HI HG HO HFX HRm HSW2 HFR hadd hsz
                          go_wp2_with (first
                            | ((with_reducible refine gate_builtin (b := .append) (xs := #[.tmp 64, .tmp 66]) rfl ?_); at_builtin; refine Kd.R_append Kd.string (w0 := W5) W.heap.size rfl (.tmp 64) (.tmp 66) 22 9 (.string ⟨#[]⟩) 16 rfl Try.underlying22 ss_info rfl (by decide) (by omega) _ out y [.string y] (fun j => some j ≠ (Value.slice (some adr) rest.length cr).ownBlock) (fun _ => False) rfl rfl rfl (fun _ hk => hk.elim) (fun j hj => HFR5.out j hj) HO5.out (Below.refl _ _) HG5.out.size (by have := HOL.out; have := Hi.out; omega) ?_; intro v2 w2 ho2 hb2 hg2 hat2; have HO7 := Aside0.mk ho2; have HBa := Aside0.mk hb2; have HI7 := Aside0.mk (show LfI w0 g (.slice Aw whole.length cw) (.int .i64 count) r2 w2 from HI5.out.other hg2 (by obtain ⟨_, _, hgc, _⟩ := HI5.out; exact R_ne HO5.out hgc (by decide)) (HI5.out.below.trans (hb2.mono H0W.out))); have HFX7 := Aside0.mk (show ∀ j, (Value.slice (some adr) rest.length cr).ownBlock = some j → w2.heap[j]? = W2.heap[j]? from fun j hj => (hg2.block j (Nat.lt_of_lt_of_le (Kd.R_lt HRq.out j hj) HSW5.out) (fun he => HO5.out.1 j he.symm hj.symm)).trans (HFX5.out j hj)); have HRm7 := Aside0.mk (Kd.R_over' HRm5.out (Kd.R_typed HO5.out) (by decide) hg2); have HSW7 := Aside0.mk (show W2.heap.size ≤ w2.heap.size from Nat.le_trans HSW5.out hg2.size); clear ho2 hb2 hg2 hat2))
                          go_roundw
                          case rel => exact ⟨i + 1, out ++ [y], y, sum + (x + (s.size : Int)), by go_num, rfl, rfl, Hi.out, HSB.out.1, HSB.out.2.1, HSB.out.2.2, HAP2, ⟨by rw [List.length_append, HOL.out]; rfl⟩, HI7, ⟨grown_belowN HG5.out HBa.out⟩, HO7, HFX7, HRm7, HSW7⟩
                          case measure => have := Hi.out; simp [intOf]; omega
                        · have q5 : decide (sum + (x + (s.size : Int)) ≤ 1048576) = false := decide_eq_false c2
                          rw [if_neg c2] at hap
                          obtain rfl : res = .error 3 := by rw [HRES2.out, ← hap]; rfl
                          clear hx hs hap hss hs0 hs1 hls c2 hi ci HAP HRES2
                          go_wp2_with fail
                          refine (MO.out _ _).mono ?_
                          rintro e W3 ⟨⟨v3, rfl⟩, hz⟩
                          have hz := hz.symm
                          subst hz
                          go_wp2_with fail
                          refine (MN.out _ _).mono ?_
                          rintro e W4 ⟨rfl, hz⟩
                          have hz := hz.symm
                          subst hz
                          exact ⟨rfl, HI.out.below, HG.out, rfl⟩
                      · have q4 : decide (x ≤ (last.size : Int)) = false := decide_eq_false c1
                        rw [if_neg (fun h => c1 h.2)] at hap
                        obtain rfl : res = .error 8 := by rw [HRES2.out, ← hap]; rfl
                        clear hx hs hap hss hs0 hs1 hls c1 hi ci HAP HRES2
                        go_wp2_with fail
                        refine (MN.out _ _).mono ?_
                        rintro e W4 ⟨rfl, hz⟩
                        have hz := hz.symm
                        subst hz
                        exact ⟨rfl, HI.out.below, HG.out, rfl⟩
                    · have q3 : decide (x ≥ 0) = false := decide_eq_false c0
                      rw [if_neg (fun h => c0 h.1)] at hap
                      obtain rfl : res = .error 8 := by rw [HRES2.out, ← hap]; rfl
                      clear hx hs hap hss hs0 hs1 hls c0 hi ci HAP HRES2
                      go_wp2_with fail
                      refine (MN.out _ _).mono ?_
                      rintro e W4 ⟨rfl, hz⟩
                      have hz := hz.symm
                      subst hz
                      exact ⟨rfl, HI.out.below, HG.out, rfl⟩
                  · have q1 : decide ((i : Int) < (k.length : Int)) = false := decide_eq_false (by omega)
                    have q2 : decide (i < k.length) = false := decide_eq_false ci
                    have HPT := Aside0.mk (show preT k rest ⟨#[]⟩ 0 = .ok out from by
                      have h := HAP.out
                      rw [List.drop_of_length_le (by omega), preT_nil] at h
                      rw [← h]
                      show Except.ok (out ++ []) = _
                      rw [List.append_nil])
                    clear HAP hi ci hs0 hs1 hls
                    go_wp2
                    go_meet
                    case rel => exact ⟨out, HPT, HI, HG, ⟨Kd.R_mono HO.out (fun _ _ => trivial)⟩⟩
              case rest =>
                obtain ⟨out, HPT, HI, HG, HO⟩ := hcut
                obtain ⟨hto, hlo⟩ := preT_ok k rest ⟨#[]⟩ 0 out HPT.out (by omega) (by omega)
                have hlong : longZ out = false := decide_eq_false (by omega)
                obtain ⟨Ao, co, rfl⟩ := Kd.R_slice HO.out
                obtain ⟨_, hoc, hoC⟩ := Kd.R_reads' HO.out
                have HPX := Aside0.mk (prefixes_all Ao co out wc hoC hoc (by omega))
                rw [show (prefixesZ out).2 = 0 by rw [prefixesZ_fine hlong]] at HPX
                have hres := HRES2.out
                rw [HPT.out] at hres
                have HRES3 := Aside0.mk (show res = if (strOfNums (prefixesZ out).1).toList = (strOfNums (whole.take (whole.length - r2.length))).toList then .ok (out, r2) else .error 8 from hres)
                obtain ⟨P1, hP1⟩ : ∃ P1, P1 = (prefixesZ out).1 := ⟨_, rfl⟩
                obtain ⟨m, hm⟩ : ∃ m, m = whole.length - r2.length := ⟨_, rfl⟩
                rw [← hP1] at HPX HRES3
                rw [← hm] at HRES3
                have HM := Aside0.mk (show (m : Int) = (whole.length : Int) - (r2.length : Int) ∧ m ≤ whole.length from ⟨by have := HRB.out; omega, by omega⟩)
                have hwl : whole.length ≤ 9223372036854775807 := HCW.out.2.1
                clear hto hlo hlong hoc hoC hres hP1 hm HRES2 HPT HIb HGb HRm HRq HSW
                go_wp2_with fail
                refine HPX.out.mono ?_
                rintro e W1 ⟨vp, rfl, hop, hbp⟩
                obtain ⟨Ap, cp, rfl⟩ := own_formD hop
                have HCp := Aside0.mk (Kd.R_reads' (Kd.R_of_own (enc := Value.int .u8) (h1 := fun _ => rfl) (ok := fun _ => True) hop (fun _ _ => trivial))).2
                have HI1 := Aside0.mk (HI.out.keep hbp)
                have HG1 := Aside0.mk (grown_trans HG.out (grown_below hbp))
                have HO1 := Aside0.mk (Kd.R_below HO.out hbp)
                clear hop hbp HPX HI HG HO
                go_wp2_with fail
                obtain ⟨A, c, hg, hC, hc, hB, hg0, hu, hbl⟩ := id HI1.out
                obtain ⟨i0, hi0, _, hsz, _⟩ := info_parts info5
                obtain ⟨htake, hTd, hT1⟩ := print_take_of (P := Try.prog) (Value.int .u8) 0 25 5 .i64 Try.underlying25 hi0 hsz Aw cw whole m (by omega) (by have := HM.out; omega) hcw
                rw [Int.toNat_natCast] at htake hTd hT1
                have HTK := Aside0.mk (fun Wz (h : Below w0.heap.size w0 Wz) => Kd.C_of_reads (h1 := fun _ => rfl) (hTd _ (Kd.reads_of_C (Kd.C_below HCW.out h))))
                have HT1 := Aside0.mk hT1
                have hwm : IntKind.i64.wrap (m : Int) = (m : Int) := IntWalk.i64_in _ (by have := HM.out.2; omega)
                have hsm : (whole.length : Int) - (r2.length : Int) = (m : Int) := HM.out.1.symm
                have S0 := Aside0.mk (And.intro ((blk_cell hg 0).trans (show _ = some (Value.slice A r2.length c) from rfl)) ((blk_cell hg 1).trans (show _ = some (Value.slice Aw whole.length cw) from rfl)))
                obtain ⟨wt, hwt⟩ : ∃ wt, wt = whole.take m := ⟨_, rfl⟩
                rw [← hwt] at htake HTK HT1 HRES3
                clear hg hC hc hB hg0 hu hbl hTd hT1 hi0 hsz hwt HRB
                by_cases hq : (strOfNums P1).toList = (strOfNums wt).toList
                · have hres := HRES3.out
                  rw [if_pos hq] at hres
                  have HRES := Aside0.mk hres
                  have HQ := Aside0.mk (show bytes_Equal.f P1 wt = some true from by unfold bytes_Equal.f; rw [show ((strOfNums P1).toList == (strOfNums wt).toList) = true by simp [hq]])
                  clear hres hq HRES3
                  refine wp_region_held_drew (S := fun w' => w'.cell? ⟨g, 0, none⟩ = some (.slice A r2.length c) ∧ w'.cell? ⟨g, 1, none⟩ = some (.slice Aw whole.length cw)) (by kernel_rfl) S0.out (fun hHeld => ?_)
                  refine anyH_named fun w6 hw3 => ?_
                  have hHeld2 := hHeld
                  rw [← hw3] at hHeld2
                  clear hHeld
                  have hHeld := hHeld2
                  clear hHeld2
                  have HI6 := Aside0.mk (show LfI w0 g (.slice Aw whole.length cw) (.int .i64 count) r2 w6 from by rw [hw3]; exact HI1.out.keep (below_drew1 (Below.refl _ _)))
                  have HG6 := Aside0.mk (show W.grownBy w6 (some g) from by rw [hw3]; exact grown_trans HG1.out (grown_below (below_drew1 (Below.refl _ _))))
                  have HO6 := Aside0.mk (show Kd.string.R 9 w6 W.heap.size (fun _ => True) (.slice Ao out.length co) out from by rw [hw3]; exact Kd.R_drew HO1.out)
                  have HCq := Aside0.mk (show Kd.C (Kd.int .u8) w6 Ap P1.length P1 from by rw [hw3]; exact Kd.C_drew HCp.out.2)
                  have HCc := Aside0.mk HCp.out.1
                  clear hw3 HI1 HG1 HO1 HCp S0
                  refine wpAnyH_take (i := 0) (oi := { dst := some 74, op := Op.move (Operand.tmp 11), type := 26, pos := "strings.go:153", after := #[], guard := none }) (v := .int .i64 0) rfl (by kernel_rfl) (by kernel_rfl) (by kernel_rfl) (fun _ _ _ h => h) (Or.inl ⟨by rfl, ?_⟩) (by assumption) ?_
                  · (intro w hSw; (try dsimp only at hSw); obtain ⟨s0, s1⟩ := hSw; go_simp)
                  try simp only [Act.put, List.setIfInBounds_toArray, List.set_cons_zero, List.set_cons_succ]
                  refine wpAnyH_take (i := 1) (oi := { dst := some 75, op := Op.binOp BinOp.eql 26 (Operand.tmp 74) (Operand.const (Value.int IntKind.i64 0)) 26, type := 4, pos := "strings.go:153", after := #[{ on := 0, ground := Ground.data }], guard := none }) (v := .bool true) rfl (by kernel_rfl) (by kernel_rfl) (by kernel_rfl) (fun _ _ _ h => h) (Or.inl ⟨by rfl, ?_⟩) (by assumption) ?_
                  · (intro w hSw; (try dsimp only at hSw); obtain ⟨s0, s1⟩ := hSw; go_simp)
                  try simp only [Act.put, List.setIfInBounds_toArray, List.set_cons_zero, List.set_cons_succ]
                  refine wpAnyH_take (i := 2) (oi := { dst := some 76, op := Op.move (Operand.tmp 75), type := 4, pos := "strings.go:153", after := #[{ on := 1, ground := Ground.data }], guard := none }) (v := .bool true) rfl (by kernel_rfl) (by kernel_rfl) (by kernel_rfl) (fun _ _ _ h => h) (Or.inl ⟨by rfl, ?_⟩) (by assumption) ?_
                  · (intro w hSw; (try dsimp only at hSw); obtain ⟨s0, s1⟩ := hSw; go_simp)
                  try simp only [Act.put, List.setIfInBounds_toArray, List.set_cons_zero, List.set_cons_succ]
                  refine wpAnyH_take (i := 3) (oi := { dst := some 77, op := Op.move (Operand.tmp 10), type := 25, pos := "strings.go:153", after := #[{ on := 2, ground := Ground.guard }], guard := some (2, true) }) (v := .slice Ap P1.length cp) rfl (by kernel_rfl) (by kernel_rfl) (by kernel_rfl) (fun _ _ _ h => h) (Or.inl ⟨by rfl, ?_⟩) (by assumption) ?_
                  · (intro w hSw; (try dsimp only at hSw); obtain ⟨s0, s1⟩ := hSw; go_simp)
                  try simp only [Act.put, List.setIfInBounds_toArray, List.set_cons_zero, List.set_cons_succ]
                  refine wpAnyH_take (i := 4) (oi := { dst := some 78, op := Op.move (Operand.tmp 0), type := 59, pos := "strings.go:153", after := #[{ on := 2, ground := Ground.guard }], guard := some (2, true) }) (v := .pointer (some ⟨g, 0, none⟩)) rfl (by kernel_rfl) (by kernel_rfl) (by kernel_rfl) (fun _ _ _ h => h) (Or.inl ⟨by rfl, ?_⟩) (by assumption) ?_
                  · (intro w hSw; (try dsimp only at hSw); obtain ⟨s0, s1⟩ := hSw; go_simp)
                  try simp only [Act.put, List.setIfInBounds_toArray, List.set_cons_zero, List.set_cons_succ]
                  refine wpAnyH_take (i := 5) (oi := { dst := some 79, op := Op.nilCheck (Operand.tmp 78), type := 0, pos := "strings.go:153", after := #[{ on := 4, ground := Ground.data }, { on := 2, ground := Ground.guard }], guard := some (2, true) }) (v := .pointer (some ⟨g, 0, none⟩)) rfl (by kernel_rfl) (by kernel_rfl) (by kernel_rfl) (fun _ _ _ h => h) (Or.inl ⟨by rfl, ?_⟩) (by assumption) ?_
                  · (intro w hSw; (try dsimp only at hSw); obtain ⟨s0, s1⟩ := hSw; go_simp)
                  try simp only [Act.put, List.setIfInBounds_toArray, List.set_cons_zero, List.set_cons_succ]
                  refine wpAnyH_take (i := 6) (oi := { dst := some 80, op := Op.fieldAddr 81 (Operand.tmp 79) 1, type := 0, pos := "strings.go:153", after := #[{ on := 5, ground := Ground.data }, { on := 2, ground := Ground.guard }], guard := some (2, true) }) (v := .pointer (some ⟨g, 1, none⟩)) rfl (by kernel_rfl) (by kernel_rfl) (by kernel_rfl) (fun _ _ _ h => h) (Or.inl ⟨by rfl, ?_⟩) (by assumption) ?_
                  · (intro w hSw; (try dsimp only at hSw); obtain ⟨s0, s1⟩ := hSw; go_simp)
                  try simp only [Act.put, List.setIfInBounds_toArray, List.set_cons_zero, List.set_cons_succ]
                  refine wpAnyH_take (i := 7) (oi := { dst := some 81, op := Op.load 25 (Operand.tmp 80), type := 25, pos := "strings.go:153", after := #[{ on := 6, ground := Ground.data }, { on := 2, ground := Ground.guard }], guard := some (2, true) }) (v := .slice Aw whole.length cw) rfl (by kernel_rfl) (by kernel_rfl) (by kernel_rfl) (fun _ _ _ h => h) (Or.inl ⟨by rfl, ?_⟩) (by assumption) ?_
                  · (intro w hSw; (try dsimp only at hSw); obtain ⟨s0, s1⟩ := hSw; go_simp)
                  try simp only [Act.put, List.setIfInBounds_toArray, List.set_cons_zero, List.set_cons_succ]
                  refine wpAnyH_take (i := 8) (oi := { dst := some 82, op := Op.move (Operand.tmp 0), type := 59, pos := "strings.go:153", after := #[{ on := 2, ground := Ground.guard }], guard := some (2, true) }) (v := .pointer (some ⟨g, 0, none⟩)) rfl (by kernel_rfl) (by kernel_rfl) (by kernel_rfl) (fun _ _ _ h => h) (Or.inl ⟨by rfl, ?_⟩) (by assumption) ?_
                  · (intro w hSw; (try dsimp only at hSw); obtain ⟨s0, s1⟩ := hSw; go_simp)
                  try simp only [Act.put, List.setIfInBounds_toArray, List.set_cons_zero, List.set_cons_succ]
                  refine wpAnyH_take (i := 9) (oi := { dst := some 83, op := Op.nilCheck (Operand.tmp 82), type := 0, pos := "strings.go:153", after := #[{ on := 8, ground := Ground.data }, { on := 2, ground := Ground.guard }], guard := some (2, true) }) (v := .pointer (some ⟨g, 0, none⟩)) rfl (by kernel_rfl) (by kernel_rfl) (by kernel_rfl) (fun _ _ _ h => h) (Or.inl ⟨by rfl, ?_⟩) (by assumption) ?_
                  · (intro w hSw; (try dsimp only at hSw); obtain ⟨s0, s1⟩ := hSw; go_simp)
                  try simp only [Act.put, List.setIfInBounds_toArray, List.set_cons_zero, List.set_cons_succ]
                  refine wpAnyH_take (i := 10) (oi := { dst := some 84, op := Op.fieldAddr 81 (Operand.tmp 83) 1, type := 0, pos := "strings.go:153", after := #[{ on := 9, ground := Ground.data }, { on := 2, ground := Ground.guard }], guard := some (2, true) }) (v := .pointer (some ⟨g, 1, none⟩)) rfl (by kernel_rfl) (by kernel_rfl) (by kernel_rfl) (fun _ _ _ h => h) (Or.inl ⟨by rfl, ?_⟩) (by assumption) ?_
                  · (intro w hSw; (try dsimp only at hSw); obtain ⟨s0, s1⟩ := hSw; go_simp)
                  try simp only [Act.put, List.setIfInBounds_toArray, List.set_cons_zero, List.set_cons_succ]
                  refine wpAnyH_take (i := 11) (oi := { dst := some 85, op := Op.load 25 (Operand.tmp 84), type := 25, pos := "strings.go:153", after := #[{ on := 10, ground := Ground.data }, { on := 2, ground := Ground.guard }], guard := some (2, true) }) (v := .slice Aw whole.length cw) rfl (by kernel_rfl) (by kernel_rfl) (by kernel_rfl) (fun _ _ _ h => h) (Or.inl ⟨by rfl, ?_⟩) (by assumption) ?_
                  · (intro w hSw; (try dsimp only at hSw); obtain ⟨s0, s1⟩ := hSw; go_simp)
                  try simp only [Act.put, List.setIfInBounds_toArray, List.set_cons_zero, List.set_cons_succ]
                  refine wpAnyH_take (i := 12) (oi := { dst := some 86, op := Op.call { callee := Callee.builtin Builtin.len, args := #[Operand.tmp 85], argTypes := #[25] }, type := 3, pos := "strings.go:153", after := #[{ on := 11, ground := Ground.data }, { on := 2, ground := Ground.guard }], guard := some (2, true) }) (v := .int .i64 whole.length) rfl (by kernel_rfl) (by kernel_rfl) (by kernel_rfl) (fun _ _ _ h => h) (Or.inl ⟨by rfl, ?_⟩) (by assumption) ?_
                  · (intro w hSw; (try dsimp only at hSw); obtain ⟨s0, s1⟩ := hSw; go_simp)
                  try simp only [Act.put, List.setIfInBounds_toArray, List.set_cons_zero, List.set_cons_succ]
                  refine wpAnyH_take (i := 13) (oi := { dst := some 87, op := Op.move (Operand.tmp 0), type := 59, pos := "strings.go:153", after := #[{ on := 2, ground := Ground.guard }], guard := some (2, true) }) (v := .pointer (some ⟨g, 0, none⟩)) rfl (by kernel_rfl) (by kernel_rfl) (by kernel_rfl) (fun _ _ _ h => h) (Or.inl ⟨by rfl, ?_⟩) (by assumption) ?_
                  · (intro w hSw; (try dsimp only at hSw); obtain ⟨s0, s1⟩ := hSw; go_simp)
                  try simp only [Act.put, List.setIfInBounds_toArray, List.set_cons_zero, List.set_cons_succ]
                  refine wpAnyH_take (i := 14) (oi := { dst := some 88, op := Op.nilCheck (Operand.tmp 87), type := 0, pos := "strings.go:153", after := #[{ on := 13, ground := Ground.data }, { on := 2, ground := Ground.guard }], guard := some (2, true) }) (v := .pointer (some ⟨g, 0, none⟩)) rfl (by kernel_rfl) (by kernel_rfl) (by kernel_rfl) (fun _ _ _ h => h) (Or.inl ⟨by rfl, ?_⟩) (by assumption) ?_
                  · (intro w hSw; (try dsimp only at hSw); obtain ⟨s0, s1⟩ := hSw; go_simp)
                  try simp only [Act.put, List.setIfInBounds_toArray, List.set_cons_zero, List.set_cons_succ]
                  refine wpAnyH_take (i := 15) (oi := { dst := some 89, op := Op.fieldAddr 81 (Operand.tmp 88) 0, type := 0, pos := "strings.go:153", after := #[{ on := 14, ground := Ground.data }, { on := 2, ground := Ground.guard }], guard := some (2, true) }) (v := .pointer (some ⟨g, 0, none⟩)) rfl (by kernel_rfl) (by kernel_rfl) (by kernel_rfl) (fun _ _ _ h => h) (Or.inl ⟨by rfl, ?_⟩) (by assumption) ?_
                  · (intro w hSw; (try dsimp only at hSw); obtain ⟨s0, s1⟩ := hSw; go_simp)
                  try simp only [Act.put, List.setIfInBounds_toArray, List.set_cons_zero, List.set_cons_succ]
                  refine wpAnyH_take (i := 16) (oi := { dst := some 90, op := Op.fieldAddr 79 (Operand.tmp 89) 0, type := 0, pos := "strings.go:153", after := #[{ on := 15, ground := Ground.data }, { on := 2, ground := Ground.guard }], guard := some (2, true) }) (v := .pointer (some ⟨g, 0, none⟩)) rfl (by kernel_rfl) (by kernel_rfl) (by kernel_rfl) (fun _ _ _ h => h) (Or.inl ⟨by rfl, ?_⟩) (by assumption) ?_
                  · (intro w hSw; (try dsimp only at hSw); obtain ⟨s0, s1⟩ := hSw; go_simp)
                  try simp only [Act.put, List.setIfInBounds_toArray, List.set_cons_zero, List.set_cons_succ]
                  refine wpAnyH_take (i := 17) (oi := { dst := some 91, op := Op.load 25 (Operand.tmp 90), type := 25, pos := "strings.go:153", after := #[{ on := 16, ground := Ground.data }, { on := 2, ground := Ground.guard }], guard := some (2, true) }) (v := .slice A r2.length c) rfl (by kernel_rfl) (by kernel_rfl) (by kernel_rfl) (fun _ _ _ h => h) (Or.inl ⟨by rfl, ?_⟩) (by assumption) ?_
                  · (intro w hSw; (try dsimp only at hSw); obtain ⟨s0, s1⟩ := hSw; go_simp)
                  try simp only [Act.put, List.setIfInBounds_toArray, List.set_cons_zero, List.set_cons_succ]
                  refine wpAnyH_take (i := 18) (oi := { dst := some 92, op := Op.call { callee := Callee.builtin Builtin.len, args := #[Operand.tmp 91], argTypes := #[25] }, type := 3, pos := "strings.go:153", after := #[{ on := 17, ground := Ground.data }, { on := 2, ground := Ground.guard }], guard := some (2, true) }) (v := .int .i64 r2.length) rfl (by kernel_rfl) (by kernel_rfl) (by kernel_rfl) (fun _ _ _ h => h) (Or.inl ⟨by rfl, ?_⟩) (by assumption) ?_
                  · (intro w hSw; (try dsimp only at hSw); obtain ⟨s0, s1⟩ := hSw; go_simp)
                  try simp only [Act.put, List.setIfInBounds_toArray, List.set_cons_zero, List.set_cons_succ]
                  refine wpAnyH_take (i := 19) (oi := { dst := some 93, op := Op.binOp BinOp.sub 3 (Operand.tmp 86) (Operand.tmp 92) 3, type := 3, pos := "strings.go:153", after := #[{ on := 12, ground := Ground.data }, { on := 18, ground := Ground.data }, { on := 2, ground := Ground.guard }], guard := some (2, true) }) (v := .int .i64 m) rfl (by kernel_rfl) (by kernel_rfl) (by kernel_rfl) (fun _ _ _ h => h) (Or.inl ⟨by rfl, ?_⟩) (by assumption) ?_
                  · (intro w hSw; (try dsimp only at hSw); obtain ⟨s0, s1⟩ := hSw; go_simp)
                  try simp only [Act.put, List.setIfInBounds_toArray, List.set_cons_zero, List.set_cons_succ]
                  refine wpAnyH_take (i := 20) (oi := { dst := some 94, op := Op.slice 25 (Operand.tmp 81) none (some (Operand.tmp 93)) none, type := 25, pos := "strings.go:153", after := #[{ on := 7, ground := Ground.data }, { on := 19, ground := Ground.data }, { on := 2, ground := Ground.guard }], guard := some (2, true) }) (v := .slice Aw wt.length cw) rfl (by kernel_rfl) (by kernel_rfl) (by kernel_rfl) (fun _ _ _ h => h) (Or.inl ⟨by rfl, ?_⟩) (by assumption) ?_
                  · (intro w hSw; (try dsimp only at hSw); obtain ⟨s0, s1⟩ := hSw; go_simp)
                  try simp only [Act.put, List.setIfInBounds_toArray, List.set_cons_zero, List.set_cons_succ]
                  refine wpAnyH_ready (rs := [21]) (by kernel_rfl) (by simp) ?_
                  refine AllReadyH.cons (o := { dst := some 95, op := Op.call { callee := Callee.value (Operand.func 53), args := #[Operand.tmp 77, Operand.tmp 94], argTypes := #[25, 25] }, type := 4, pos := "strings.go:153", after := #[{ on := 3, ground := Ground.data }, { on := 20, ground := Ground.data }, { on := 2, ground := Ground.chain }, { on := 2, ground := Ground.guard }], guard := some (2, true) }) rfl (fun K hK => ?_) ?_
                  · go_simp
                    go_at_call 53
                    refine (bytes_Equal.calls Ap cp P1 Aw cw wt true w6 HCq.out HCc.out (HTK.out _ HI6.out.below) HT1.out HQ.out).mono ?_
                    rintro e W7 ⟨rfl, ⟨nd, hnd⟩⟩
                    have hb7 : Below w6.heap.size w6 W7 := by rw [hnd]; exact pw_below_drewN (Below.refl _ _) _
                    have HI7 := Aside0.mk (HI6.out.keep hb7)
                    have HG7 := Aside0.mk (grown_trans HG6.out (grown_below hb7))
                    have HO7 := Aside0.mk (Kd.R_below HO6.out hb7)
                    have S7 := Aside0.mk (show W7.cell? ⟨g, 0, none⟩ = some (.slice A r2.length c) ∧ W7.cell? ⟨g, 1, none⟩ = some (.slice Aw whole.length cw) from by rw [hnd]; exact hHeld)
                    clear hnd hb7 HI6 HG6 HO6 HCq
                    refine hK.out _ _ (S7.out) (fun hHeld2 => ?_)
                    clear hK K hHeld
                    have hHeld := hHeld2
                    clear hHeld2
                    try simp only [Act.put, List.setIfInBounds_toArray, List.set_cons_zero, List.set_cons_succ]
                    refine wpAnyH_take (i := 22) (oi := { dst := some 96, op := Op.pick (Operand.tmp 76) (Operand.tmp 95) (Operand.const (Value.bool false)), type := 4, pos := "strings.go:153", after := #[{ on := 2, ground := Ground.data }, { on := 21, ground := Ground.data }], guard := none }) (v := .bool true) rfl (by kernel_rfl) (by kernel_rfl) (by kernel_rfl) (fun _ _ _ h => h) (Or.inl ⟨by rfl, ?_⟩) (by assumption) ?_
                    · (intro w hSw; (try dsimp only at hSw); go_simp)
                    try simp only [Act.put, List.setIfInBounds_toArray, List.set_cons_zero, List.set_cons_succ]
                    refine wpAnyH_ready (rs := [23]) (by kernel_rfl) (by simp) ?_
                    refine AllReadyH.cons (o := { dst := some 97, op := Op.call { callee := Callee.value (Operand.func 50), args := #[Operand.tmp 96, Operand.const (Value.int IntKind.i64 8)], argTypes := #[4, 26] }, type := 0, pos := "strings.go:153", after := #[{ on := 22, ground := Ground.data }, { on := 21, ground := Ground.chain }], guard := none }) rfl (fun K hK => ?_) ?_
                    · go_simp
                      go_at_call 50
                      refine (MO.out _ _).mono ?_
                      rintro e W8 ⟨⟨v8, rfl⟩, hz⟩
                      have hz := hz.symm
                      subst hz
                      refine hK.out _ _ (S7.out) (fun hHeld2 => ?_)
                      clear hK K hHeld
                      have hHeld := hHeld2
                      clear hHeld2
                      try simp only [Act.put, List.setIfInBounds_toArray, List.set_cons_zero, List.set_cons_succ]
                      refine wpAnyH_done (by kernel_rfl) ?_ _
                      go_wp2
                      go_ret
                      rw [HRES.out]
                      exact ⟨HI7.out.below, HG7.out, _, rfl, HI7.out, HO7.out⟩
                    exact AllReadyH.nil
                  exact AllReadyH.nil
                · have hres := HRES3.out
                  rw [if_neg hq] at hres
                  subst hres
                  have HQ := Aside0.mk (show bytes_Equal.f P1 wt = some false from by unfold bytes_Equal.f; rw [show ((strOfNums P1).toList == (strOfNums wt).toList) = false by simp [hq]])
                  clear hq HRES3
                  refine wp_region_held_drew (S := fun w' => w'.cell? ⟨g, 0, none⟩ = some (.slice A r2.length c) ∧ w'.cell? ⟨g, 1, none⟩ = some (.slice Aw whole.length cw)) (by kernel_rfl) S0.out (fun hHeld => ?_)
                  refine anyH_named fun w6 hw3 => ?_
                  have hHeld2 := hHeld
                  rw [← hw3] at hHeld2
                  clear hHeld
                  have hHeld := hHeld2
                  clear hHeld2
                  have HI6 := Aside0.mk (show LfI w0 g (.slice Aw whole.length cw) (.int .i64 count) r2 w6 from by rw [hw3]; exact HI1.out.keep (below_drew1 (Below.refl _ _)))
                  have HG6 := Aside0.mk (show W.grownBy w6 (some g) from by rw [hw3]; exact grown_trans HG1.out (grown_below (below_drew1 (Below.refl _ _))))
                  have HO6 := Aside0.mk (show Kd.string.R 9 w6 W.heap.size (fun _ => True) (.slice Ao out.length co) out from by rw [hw3]; exact Kd.R_drew HO1.out)
                  have HCq := Aside0.mk (show Kd.C (Kd.int .u8) w6 Ap P1.length P1 from by rw [hw3]; exact Kd.C_drew HCp.out.2)
                  have HCc := Aside0.mk HCp.out.1
                  clear hw3 HI1 HG1 HO1 HCp S0
                  refine wpAnyH_take (i := 0) (oi := { dst := some 74, op := Op.move (Operand.tmp 11), type := 26, pos := "strings.go:153", after := #[], guard := none }) (v := .int .i64 0) rfl (by kernel_rfl) (by kernel_rfl) (by kernel_rfl) (fun _ _ _ h => h) (Or.inl ⟨by rfl, ?_⟩) (by assumption) ?_
                  · (intro w hSw; (try dsimp only at hSw); obtain ⟨s0, s1⟩ := hSw; go_simp)
                  try simp only [Act.put, List.setIfInBounds_toArray, List.set_cons_zero, List.set_cons_succ]
                  refine wpAnyH_take (i := 1) (oi := { dst := some 75, op := Op.binOp BinOp.eql 26 (Operand.tmp 74) (Operand.const (Value.int IntKind.i64 0)) 26, type := 4, pos := "strings.go:153", after := #[{ on := 0, ground := Ground.data }], guard := none }) (v := .bool true) rfl (by kernel_rfl) (by kernel_rfl) (by kernel_rfl) (fun _ _ _ h => h) (Or.inl ⟨by rfl, ?_⟩) (by assumption) ?_
                  · (intro w hSw; (try dsimp only at hSw); obtain ⟨s0, s1⟩ := hSw; go_simp)
                  try simp only [Act.put, List.setIfInBounds_toArray, List.set_cons_zero, List.set_cons_succ]
                  refine wpAnyH_take (i := 2) (oi := { dst := some 76, op := Op.move (Operand.tmp 75), type := 4, pos := "strings.go:153", after := #[{ on := 1, ground := Ground.data }], guard := none }) (v := .bool true) rfl (by kernel_rfl) (by kernel_rfl) (by kernel_rfl) (fun _ _ _ h => h) (Or.inl ⟨by rfl, ?_⟩) (by assumption) ?_
                  · (intro w hSw; (try dsimp only at hSw); obtain ⟨s0, s1⟩ := hSw; go_simp)
                  try simp only [Act.put, List.setIfInBounds_toArray, List.set_cons_zero, List.set_cons_succ]
                  refine wpAnyH_take (i := 3) (oi := { dst := some 77, op := Op.move (Operand.tmp 10), type := 25, pos := "strings.go:153", after := #[{ on := 2, ground := Ground.guard }], guard := some (2, true) }) (v := .slice Ap P1.length cp) rfl (by kernel_rfl) (by kernel_rfl) (by kernel_rfl) (fun _ _ _ h => h) (Or.inl ⟨by rfl, ?_⟩) (by assumption) ?_
                  · (intro w hSw; (try dsimp only at hSw); obtain ⟨s0, s1⟩ := hSw; go_simp)
                  try simp only [Act.put, List.setIfInBounds_toArray, List.set_cons_zero, List.set_cons_succ]
                  refine wpAnyH_take (i := 4) (oi := { dst := some 78, op := Op.move (Operand.tmp 0), type := 59, pos := "strings.go:153", after := #[{ on := 2, ground := Ground.guard }], guard := some (2, true) }) (v := .pointer (some ⟨g, 0, none⟩)) rfl (by kernel_rfl) (by kernel_rfl) (by kernel_rfl) (fun _ _ _ h => h) (Or.inl ⟨by rfl, ?_⟩) (by assumption) ?_
                  · (intro w hSw; (try dsimp only at hSw); obtain ⟨s0, s1⟩ := hSw; go_simp)
                  try simp only [Act.put, List.setIfInBounds_toArray, List.set_cons_zero, List.set_cons_succ]
                  refine wpAnyH_take (i := 5) (oi := { dst := some 79, op := Op.nilCheck (Operand.tmp 78), type := 0, pos := "strings.go:153", after := #[{ on := 4, ground := Ground.data }, { on := 2, ground := Ground.guard }], guard := some (2, true) }) (v := .pointer (some ⟨g, 0, none⟩)) rfl (by kernel_rfl) (by kernel_rfl) (by kernel_rfl) (fun _ _ _ h => h) (Or.inl ⟨by rfl, ?_⟩) (by assumption) ?_
                  · (intro w hSw; (try dsimp only at hSw); obtain ⟨s0, s1⟩ := hSw; go_simp)
                  try simp only [Act.put, List.setIfInBounds_toArray, List.set_cons_zero, List.set_cons_succ]
                  refine wpAnyH_take (i := 6) (oi := { dst := some 80, op := Op.fieldAddr 81 (Operand.tmp 79) 1, type := 0, pos := "strings.go:153", after := #[{ on := 5, ground := Ground.data }, { on := 2, ground := Ground.guard }], guard := some (2, true) }) (v := .pointer (some ⟨g, 1, none⟩)) rfl (by kernel_rfl) (by kernel_rfl) (by kernel_rfl) (fun _ _ _ h => h) (Or.inl ⟨by rfl, ?_⟩) (by assumption) ?_
                  · (intro w hSw; (try dsimp only at hSw); obtain ⟨s0, s1⟩ := hSw; go_simp)
                  try simp only [Act.put, List.setIfInBounds_toArray, List.set_cons_zero, List.set_cons_succ]
                  refine wpAnyH_take (i := 7) (oi := { dst := some 81, op := Op.load 25 (Operand.tmp 80), type := 25, pos := "strings.go:153", after := #[{ on := 6, ground := Ground.data }, { on := 2, ground := Ground.guard }], guard := some (2, true) }) (v := .slice Aw whole.length cw) rfl (by kernel_rfl) (by kernel_rfl) (by kernel_rfl) (fun _ _ _ h => h) (Or.inl ⟨by rfl, ?_⟩) (by assumption) ?_
                  · (intro w hSw; (try dsimp only at hSw); obtain ⟨s0, s1⟩ := hSw; go_simp)
                  try simp only [Act.put, List.setIfInBounds_toArray, List.set_cons_zero, List.set_cons_succ]
                  refine wpAnyH_take (i := 8) (oi := { dst := some 82, op := Op.move (Operand.tmp 0), type := 59, pos := "strings.go:153", after := #[{ on := 2, ground := Ground.guard }], guard := some (2, true) }) (v := .pointer (some ⟨g, 0, none⟩)) rfl (by kernel_rfl) (by kernel_rfl) (by kernel_rfl) (fun _ _ _ h => h) (Or.inl ⟨by rfl, ?_⟩) (by assumption) ?_
                  · (intro w hSw; (try dsimp only at hSw); obtain ⟨s0, s1⟩ := hSw; go_simp)
                  try simp only [Act.put, List.setIfInBounds_toArray, List.set_cons_zero, List.set_cons_succ]
                  refine wpAnyH_take (i := 9) (oi := { dst := some 83, op := Op.nilCheck (Operand.tmp 82), type := 0, pos := "strings.go:153", after := #[{ on := 8, ground := Ground.data }, { on := 2, ground := Ground.guard }], guard := some (2, true) }) (v := .pointer (some ⟨g, 0, none⟩)) rfl (by kernel_rfl) (by kernel_rfl) (by kernel_rfl) (fun _ _ _ h => h) (Or.inl ⟨by rfl, ?_⟩) (by assumption) ?_
                  · (intro w hSw; (try dsimp only at hSw); obtain ⟨s0, s1⟩ := hSw; go_simp)
                  try simp only [Act.put, List.setIfInBounds_toArray, List.set_cons_zero, List.set_cons_succ]
                  refine wpAnyH_take (i := 10) (oi := { dst := some 84, op := Op.fieldAddr 81 (Operand.tmp 83) 1, type := 0, pos := "strings.go:153", after := #[{ on := 9, ground := Ground.data }, { on := 2, ground := Ground.guard }], guard := some (2, true) }) (v := .pointer (some ⟨g, 1, none⟩)) rfl (by kernel_rfl) (by kernel_rfl) (by kernel_rfl) (fun _ _ _ h => h) (Or.inl ⟨by rfl, ?_⟩) (by assumption) ?_
                  · (intro w hSw; (try dsimp only at hSw); obtain ⟨s0, s1⟩ := hSw; go_simp)
                  try simp only [Act.put, List.setIfInBounds_toArray, List.set_cons_zero, List.set_cons_succ]
                  refine wpAnyH_take (i := 11) (oi := { dst := some 85, op := Op.load 25 (Operand.tmp 84), type := 25, pos := "strings.go:153", after := #[{ on := 10, ground := Ground.data }, { on := 2, ground := Ground.guard }], guard := some (2, true) }) (v := .slice Aw whole.length cw) rfl (by kernel_rfl) (by kernel_rfl) (by kernel_rfl) (fun _ _ _ h => h) (Or.inl ⟨by rfl, ?_⟩) (by assumption) ?_
                  · (intro w hSw; (try dsimp only at hSw); obtain ⟨s0, s1⟩ := hSw; go_simp)
                  try simp only [Act.put, List.setIfInBounds_toArray, List.set_cons_zero, List.set_cons_succ]
                  refine wpAnyH_take (i := 12) (oi := { dst := some 86, op := Op.call { callee := Callee.builtin Builtin.len, args := #[Operand.tmp 85], argTypes := #[25] }, type := 3, pos := "strings.go:153", after := #[{ on := 11, ground := Ground.data }, { on := 2, ground := Ground.guard }], guard := some (2, true) }) (v := .int .i64 whole.length) rfl (by kernel_rfl) (by kernel_rfl) (by kernel_rfl) (fun _ _ _ h => h) (Or.inl ⟨by rfl, ?_⟩) (by assumption) ?_
                  · (intro w hSw; (try dsimp only at hSw); obtain ⟨s0, s1⟩ := hSw; go_simp)
                  try simp only [Act.put, List.setIfInBounds_toArray, List.set_cons_zero, List.set_cons_succ]
                  refine wpAnyH_take (i := 13) (oi := { dst := some 87, op := Op.move (Operand.tmp 0), type := 59, pos := "strings.go:153", after := #[{ on := 2, ground := Ground.guard }], guard := some (2, true) }) (v := .pointer (some ⟨g, 0, none⟩)) rfl (by kernel_rfl) (by kernel_rfl) (by kernel_rfl) (fun _ _ _ h => h) (Or.inl ⟨by rfl, ?_⟩) (by assumption) ?_
                  · (intro w hSw; (try dsimp only at hSw); obtain ⟨s0, s1⟩ := hSw; go_simp)
                  try simp only [Act.put, List.setIfInBounds_toArray, List.set_cons_zero, List.set_cons_succ]
                  refine wpAnyH_take (i := 14) (oi := { dst := some 88, op := Op.nilCheck (Operand.tmp 87), type := 0, pos := "strings.go:153", after := #[{ on := 13, ground := Ground.data }, { on := 2, ground := Ground.guard }], guard := some (2, true) }) (v := .pointer (some ⟨g, 0, none⟩)) rfl (by kernel_rfl) (by kernel_rfl) (by kernel_rfl) (fun _ _ _ h => h) (Or.inl ⟨by rfl, ?_⟩) (by assumption) ?_
                  · (intro w hSw; (try dsimp only at hSw); obtain ⟨s0, s1⟩ := hSw; go_simp)
                  try simp only [Act.put, List.setIfInBounds_toArray, List.set_cons_zero, List.set_cons_succ]
                  refine wpAnyH_take (i := 15) (oi := { dst := some 89, op := Op.fieldAddr 81 (Operand.tmp 88) 0, type := 0, pos := "strings.go:153", after := #[{ on := 14, ground := Ground.data }, { on := 2, ground := Ground.guard }], guard := some (2, true) }) (v := .pointer (some ⟨g, 0, none⟩)) rfl (by kernel_rfl) (by kernel_rfl) (by kernel_rfl) (fun _ _ _ h => h) (Or.inl ⟨by rfl, ?_⟩) (by assumption) ?_
                  · (intro w hSw; (try dsimp only at hSw); obtain ⟨s0, s1⟩ := hSw; go_simp)
                  try simp only [Act.put, List.setIfInBounds_toArray, List.set_cons_zero, List.set_cons_succ]
                  refine wpAnyH_take (i := 16) (oi := { dst := some 90, op := Op.fieldAddr 79 (Operand.tmp 89) 0, type := 0, pos := "strings.go:153", after := #[{ on := 15, ground := Ground.data }, { on := 2, ground := Ground.guard }], guard := some (2, true) }) (v := .pointer (some ⟨g, 0, none⟩)) rfl (by kernel_rfl) (by kernel_rfl) (by kernel_rfl) (fun _ _ _ h => h) (Or.inl ⟨by rfl, ?_⟩) (by assumption) ?_
                  · (intro w hSw; (try dsimp only at hSw); obtain ⟨s0, s1⟩ := hSw; go_simp)
                  try simp only [Act.put, List.setIfInBounds_toArray, List.set_cons_zero, List.set_cons_succ]
                  refine wpAnyH_take (i := 17) (oi := { dst := some 91, op := Op.load 25 (Operand.tmp 90), type := 25, pos := "strings.go:153", after := #[{ on := 16, ground := Ground.data }, { on := 2, ground := Ground.guard }], guard := some (2, true) }) (v := .slice A r2.length c) rfl (by kernel_rfl) (by kernel_rfl) (by kernel_rfl) (fun _ _ _ h => h) (Or.inl ⟨by rfl, ?_⟩) (by assumption) ?_
                  · (intro w hSw; (try dsimp only at hSw); obtain ⟨s0, s1⟩ := hSw; go_simp)
                  try simp only [Act.put, List.setIfInBounds_toArray, List.set_cons_zero, List.set_cons_succ]
                  refine wpAnyH_take (i := 18) (oi := { dst := some 92, op := Op.call { callee := Callee.builtin Builtin.len, args := #[Operand.tmp 91], argTypes := #[25] }, type := 3, pos := "strings.go:153", after := #[{ on := 17, ground := Ground.data }, { on := 2, ground := Ground.guard }], guard := some (2, true) }) (v := .int .i64 r2.length) rfl (by kernel_rfl) (by kernel_rfl) (by kernel_rfl) (fun _ _ _ h => h) (Or.inl ⟨by rfl, ?_⟩) (by assumption) ?_
                  · (intro w hSw; (try dsimp only at hSw); obtain ⟨s0, s1⟩ := hSw; go_simp)
                  try simp only [Act.put, List.setIfInBounds_toArray, List.set_cons_zero, List.set_cons_succ]
                  refine wpAnyH_take (i := 19) (oi := { dst := some 93, op := Op.binOp BinOp.sub 3 (Operand.tmp 86) (Operand.tmp 92) 3, type := 3, pos := "strings.go:153", after := #[{ on := 12, ground := Ground.data }, { on := 18, ground := Ground.data }, { on := 2, ground := Ground.guard }], guard := some (2, true) }) (v := .int .i64 m) rfl (by kernel_rfl) (by kernel_rfl) (by kernel_rfl) (fun _ _ _ h => h) (Or.inl ⟨by rfl, ?_⟩) (by assumption) ?_
                  · (intro w hSw; (try dsimp only at hSw); obtain ⟨s0, s1⟩ := hSw; go_simp)
                  try simp only [Act.put, List.setIfInBounds_toArray, List.set_cons_zero, List.set_cons_succ]
                  refine wpAnyH_take (i := 20) (oi := { dst := some 94, op := Op.slice 25 (Operand.tmp 81) none (some (Operand.tmp 93)) none, type := 25, pos := "strings.go:153", after := #[{ on := 7, ground := Ground.data }, { on := 19, ground := Ground.data }, { on := 2, ground := Ground.guard }], guard := some (2, true) }) (v := .slice Aw wt.length cw) rfl (by kernel_rfl) (by kernel_rfl) (by kernel_rfl) (fun _ _ _ h => h) (Or.inl ⟨by rfl, ?_⟩) (by assumption) ?_
                  · (intro w hSw; (try dsimp only at hSw); obtain ⟨s0, s1⟩ := hSw; go_simp)
                  try simp only [Act.put, List.setIfInBounds_toArray, List.set_cons_zero, List.set_cons_succ]
                  refine wpAnyH_ready (rs := [21]) (by kernel_rfl) (by simp) ?_
                  refine AllReadyH.cons (o := { dst := some 95, op := Op.call { callee := Callee.value (Operand.func 53), args := #[Operand.tmp 77, Operand.tmp 94], argTypes := #[25, 25] }, type := 4, pos := "strings.go:153", after := #[{ on := 3, ground := Ground.data }, { on := 20, ground := Ground.data }, { on := 2, ground := Ground.chain }, { on := 2, ground := Ground.guard }], guard := some (2, true) }) rfl (fun K hK => ?_) ?_
                  · go_simp
                    go_at_call 53
                    refine (bytes_Equal.calls Ap cp P1 Aw cw wt false w6 HCq.out HCc.out (HTK.out _ HI6.out.below) HT1.out HQ.out).mono ?_
                    rintro e W7 ⟨rfl, ⟨nd, hnd⟩⟩
                    have hb7 : Below w6.heap.size w6 W7 := by rw [hnd]; exact pw_below_drewN (Below.refl _ _) _
                    have HI7 := Aside0.mk (HI6.out.keep hb7)
                    have HG7 := Aside0.mk (grown_trans HG6.out (grown_below hb7))
                    have HO7 := Aside0.mk (Kd.R_below HO6.out hb7)
                    have S7 := Aside0.mk (show W7.cell? ⟨g, 0, none⟩ = some (.slice A r2.length c) ∧ W7.cell? ⟨g, 1, none⟩ = some (.slice Aw whole.length cw) from by rw [hnd]; exact hHeld)
                    clear hnd hb7 HI6 HG6 HO6 HCq
                    refine hK.out _ _ (S7.out) (fun hHeld2 => ?_)
                    clear hK K hHeld
                    have hHeld := hHeld2
                    clear hHeld2
                    try simp only [Act.put, List.setIfInBounds_toArray, List.set_cons_zero, List.set_cons_succ]
                    refine wpAnyH_take (i := 22) (oi := { dst := some 96, op := Op.pick (Operand.tmp 76) (Operand.tmp 95) (Operand.const (Value.bool false)), type := 4, pos := "strings.go:153", after := #[{ on := 2, ground := Ground.data }, { on := 21, ground := Ground.data }], guard := none }) (v := .bool false) rfl (by kernel_rfl) (by kernel_rfl) (by kernel_rfl) (fun _ _ _ h => h) (Or.inl ⟨by rfl, ?_⟩) (by assumption) ?_
                    · (intro w hSw; (try dsimp only at hSw); go_simp)
                    try simp only [Act.put, List.setIfInBounds_toArray, List.set_cons_zero, List.set_cons_succ]
                    refine wpAnyH_ready (rs := [23]) (by kernel_rfl) (by simp) ?_
                    refine AllReadyH.cons (o := { dst := some 97, op := Op.call { callee := Callee.value (Operand.func 50), args := #[Operand.tmp 96, Operand.const (Value.int IntKind.i64 8)], argTypes := #[4, 26] }, type := 0, pos := "strings.go:153", after := #[{ on := 22, ground := Ground.data }, { on := 21, ground := Ground.chain }], guard := none }) rfl (fun K hK => ?_) ?_
                    · go_simp
                      go_at_call 50
                      refine (MN.out _ _).mono ?_
                      rintro e W8 ⟨rfl, hz⟩
                      have hz := hz.symm
                      subst hz
                      exact ⟨rfl, HI7.out.below, HG7.out, rfl⟩
                    exact AllReadyH.nil
                  exact AllReadyH.nil
            exact AllReadyH.nil
          exact AllReadyH.nil
      exact AllReadyH.nil
    exact AllReadyH.nil
end Go.Proofs.Ytcdephhplmcmjaa.X
end

section
namespace Go.Proofs.Ytcdephhplmcmjaa.X
open Go.RowKit Go.Proofs.YtcdephhplmcmjaaW.PrintWords Go.Proofs.YtcdephhplmcmjaaW.PrintLast Go.Proofs.YtcdephhplmcmjaaW.PrintMore
set_option linter.unusedVariables false
set_option linter.unusedSimpArgs false
set_option maxRecDepth 100000 in
set_option maxHeartbeats 4000000 in
theorem rd_lengths (w0 : World) (g : Nat) (t1 : Value) (count : Int) (b : List Int) (W : World) (hI : LfI w0 g t1 (.int .i64 count) b W) :
    Calls Try.prog 36 #[.pointer (some ⟨g, 0, none⟩)] W (LfO w0 g t1 (.int .i64 count) W (ownT W) (textsT count b)) := by
  have HI := Aside0.mk hI
  have HT := Aside0.mk (fun Wz (h : LfI w0 g t1 (.int .i64 count) b Wz) => left_texts w0 g t1 (.int .i64 count) count b Wz h)
  have q2 : W.cell? ⟨g, 2, none⟩ = some (.int .i64 count) := by obtain ⟨_, _, hg, _⟩ := hI; exact blk_cell hg 2
  clear hI
  cases htx : textsT count b with
  | error x =>
    rw [htx] at HT
    clear htx
    go_enter Try.func36, Try.ntmps36
    go_wp2
    refine wp_region_held_drew (S := fun w' => w'.cell? ⟨g, 2, none⟩ = some (.int .i64 count)) (by kernel_rfl) (q2) (fun hHeld => ?_)
    refine anyH_named fun w3 hw3 => ?_
    have hHeld2 := hHeld
    rw [← hw3] at hHeld2
    clear hHeld
    have hHeld := hHeld2
    clear hHeld2
    have HI1 := Aside0.mk (show LfI w0 g t1 (.int .i64 count) b w3 from by rw [hw3]; exact HI.out.keep (below_drew1 (Below.refl _ _)))
    have HG1 := Aside0.mk (show W.grownBy w3 (some g) from by rw [hw3]; exact grown_below (below_drew1 (Below.refl _ _)))
    clear hw3 q2 HI
    refine wpAnyH_take (i := 0) (oi := { dst := some 3, op := Op.move (Operand.tmp 0), type := 59, pos := "strings.go:137", after := #[], guard := none }) (v := .pointer (some ⟨g, 0, none⟩)) rfl (by kernel_rfl) (by kernel_rfl) (by kernel_rfl) (fun _ _ _ h => h) (Or.inl ⟨by rfl, ?_⟩) (by assumption) ?_
    · (intro w hSw; (try dsimp only at hSw); go_simp)
    try simp only [Act.put, List.setIfInBounds_toArray, List.set_cons_zero, List.set_cons_succ]
    refine wpAnyH_take (i := 1) (oi := { dst := some 4, op := Op.nilCheck (Operand.tmp 3), type := 0, pos := "strings.go:137", after := #[{ on := 0, ground := Ground.data }], guard := none }) (v := .pointer (some ⟨g, 0, none⟩)) rfl (by kernel_rfl) (by kernel_rfl) (by kernel_rfl) (fun _ _ _ h => h) (Or.inl ⟨by rfl, ?_⟩) (by assumption) ?_
    · (intro w hSw; (try dsimp only at hSw); go_simp)
    try simp only [Act.put, List.setIfInBounds_toArray, List.set_cons_zero, List.set_cons_succ]
    refine wpAnyH_take (i := 2) (oi := { dst := some 5, op := Op.fieldAddr 81 (Operand.tmp 4) 0, type := 0, pos := "strings.go:137", after := #[{ on := 1, ground := Ground.data }], guard := none }) (v := .pointer (some ⟨g, 0, none⟩)) rfl (by kernel_rfl) (by kernel_rfl) (by kernel_rfl) (fun _ _ _ h => h) (Or.inl ⟨by rfl, ?_⟩) (by assumption) ?_
    · (intro w hSw; (try dsimp only at hSw); go_simp)
    try simp only [Act.put, List.setIfInBounds_toArray, List.set_cons_zero, List.set_cons_succ]
    refine wpAnyH_take (i := 3) (oi := { dst := some 6, op := Op.move (Operand.tmp 0), type := 59, pos := "strings.go:137", after := #[], guard := none }) (v := .pointer (some ⟨g, 0, none⟩)) rfl (by kernel_rfl) (by kernel_rfl) (by kernel_rfl) (fun _ _ _ h => h) (Or.inl ⟨by rfl, ?_⟩) (by assumption) ?_
    · (intro w hSw; (try dsimp only at hSw); go_simp)
    try simp only [Act.put, List.setIfInBounds_toArray, List.set_cons_zero, List.set_cons_succ]
    refine wpAnyH_take (i := 4) (oi := { dst := some 7, op := Op.nilCheck (Operand.tmp 6), type := 0, pos := "strings.go:137", after := #[{ on := 3, ground := Ground.data }], guard := none }) (v := .pointer (some ⟨g, 0, none⟩)) rfl (by kernel_rfl) (by kernel_rfl) (by kernel_rfl) (fun _ _ _ h => h) (Or.inl ⟨by rfl, ?_⟩) (by assumption) ?_
    · (intro w hSw; (try dsimp only at hSw); go_simp)
    try simp only [Act.put, List.setIfInBounds_toArray, List.set_cons_zero, List.set_cons_succ]
    refine wpAnyH_take (i := 5) (oi := { dst := some 8, op := Op.fieldAddr 81 (Operand.tmp 7) 2, type := 0, pos := "strings.go:137", after := #[{ on := 4, ground := Ground.data }], guard := none }) (v := .pointer (some ⟨g, 2, none⟩)) rfl (by kernel_rfl) (by kernel_rfl) (by kernel_rfl) (fun _ _ _ h => h) (Or.inl ⟨by rfl, ?_⟩) (by assumption) ?_
    · (intro w hSw; (try dsimp only at hSw); go_simp)
    try simp only [Act.put, List.setIfInBounds_toArray, List.set_cons_zero, List.set_cons_succ]
    refine wpAnyH_take (i := 6) (oi := { dst := some 9, op := Op.load 3 (Operand.tmp 8), type := 3, pos := "strings.go:137", after := #[{ on := 5, ground := Ground.data }], guard := none }) (v := .int .i64 count) rfl (by kernel_rfl) (by kernel_rfl) (by kernel_rfl) (fun _ _ _ h => h) (Or.inl ⟨by rfl, ?_⟩) (by assumption) ?_
    · (intro w hSw; (try dsimp only at hSw); go_simp)
    try simp only [Act.put, List.setIfInBounds_toArray, List.set_cons_zero, List.set_cons_succ]
    refine wpAnyH_ready (rs := [7]) (by kernel_rfl) (by simp) ?_
    refine AllReadyH.cons (o := { dst := some 10, op := Op.call { callee := Callee.value (Operand.func 51), args := #[Operand.tmp 5, Operand.tmp 9], argTypes := #[79, 3] }, type := 22, pos := "strings.go:137", after := #[{ on := 2, ground := Ground.data }, { on := 6, ground := Ground.data }], guard := none }) rfl (fun K hK => ?_) ?_
    · go_simp
      go_at_call 51
      refine (HT.out _ HI1.out).mono ?_
      rintro e Wx ⟨hbx, hgx, hx⟩
      have hx : e = .panicked (sailP x) := hx
      subst hx
      exact ⟨rfl, hbx, grown_trans HG1.out hgx, rfl⟩
    exact AllReadyH.nil
  | ok p =>
    obtain ⟨l, r⟩ := p
    rw [htx] at HT
    clear htx
    go_enter Try.func36, Try.ntmps36
    go_wp2
    refine wp_region_held_drew (S := fun w' => w'.cell? ⟨g, 2, none⟩ = some (.int .i64 count)) (by kernel_rfl) (q2) (fun hHeld => ?_)
    refine anyH_named fun w3 hw3 => ?_
    have hHeld2 := hHeld
    rw [← hw3] at hHeld2
    clear hHeld
    have hHeld := hHeld2
    clear hHeld2
    have HI1 := Aside0.mk (show LfI w0 g t1 (.int .i64 count) b w3 from by rw [hw3]; exact HI.out.keep (below_drew1 (Below.refl _ _)))
    have HG1 := Aside0.mk (show W.grownBy w3 (some g) from by rw [hw3]; exact grown_below (below_drew1 (Below.refl _ _)))
    clear hw3 q2 HI
    refine wpAnyH_take (i := 0) (oi := { dst := some 3, op := Op.move (Operand.tmp 0), type := 59, pos := "strings.go:137", after := #[], guard := none }) (v := .pointer (some ⟨g, 0, none⟩)) rfl (by kernel_rfl) (by kernel_rfl) (by kernel_rfl) (fun _ _ _ h => h) (Or.inl ⟨by rfl, ?_⟩) (by assumption) ?_
    · (intro w hSw; (try dsimp only at hSw); go_simp)
    try simp only [Act.put, List.setIfInBounds_toArray, List.set_cons_zero, List.set_cons_succ]
    refine wpAnyH_take (i := 1) (oi := { dst := some 4, op := Op.nilCheck (Operand.tmp 3), type := 0, pos := "strings.go:137", after := #[{ on := 0, ground := Ground.data }], guard := none }) (v := .pointer (some ⟨g, 0, none⟩)) rfl (by kernel_rfl) (by kernel_rfl) (by kernel_rfl) (fun _ _ _ h => h) (Or.inl ⟨by rfl, ?_⟩) (by assumption) ?_
    · (intro w hSw; (try dsimp only at hSw); go_simp)
    try simp only [Act.put, List.setIfInBounds_toArray, List.set_cons_zero, List.set_cons_succ]
    refine wpAnyH_take (i := 2) (oi := { dst := some 5, op := Op.fieldAddr 81 (Operand.tmp 4) 0, type := 0, pos := "strings.go:137", after := #[{ on := 1, ground := Ground.data }], guard := none }) (v := .pointer (some ⟨g, 0, none⟩)) rfl (by kernel_rfl) (by kernel_rfl) (by kernel_rfl) (fun _ _ _ h => h) (Or.inl ⟨by rfl, ?_⟩) (by assumption) ?_
    · (intro w hSw; (try dsimp only at hSw); go_simp)
    try simp only [Act.put, List.setIfInBounds_toArray, List.set_cons_zero, List.set_cons_succ]
    refine wpAnyH_take (i := 3) (oi := { dst := some 6, op := Op.move (Operand.tmp 0), type := 59, pos := "strings.go:137", after := #[], guard := none }) (v := .pointer (some ⟨g, 0, none⟩)) rfl (by kernel_rfl) (by kernel_rfl) (by kernel_rfl) (fun _ _ _ h => h) (Or.inl ⟨by rfl, ?_⟩) (by assumption) ?_
    · (intro w hSw; (try dsimp only at hSw); go_simp)
    try simp only [Act.put, List.setIfInBounds_toArray, List.set_cons_zero, List.set_cons_succ]
    refine wpAnyH_take (i := 4) (oi := { dst := some 7, op := Op.nilCheck (Operand.tmp 6), type := 0, pos := "strings.go:137", after := #[{ on := 3, ground := Ground.data }], guard := none }) (v := .pointer (some ⟨g, 0, none⟩)) rfl (by kernel_rfl) (by kernel_rfl) (by kernel_rfl) (fun _ _ _ h => h) (Or.inl ⟨by rfl, ?_⟩) (by assumption) ?_
    · (intro w hSw; (try dsimp only at hSw); go_simp)
    try simp only [Act.put, List.setIfInBounds_toArray, List.set_cons_zero, List.set_cons_succ]
    refine wpAnyH_take (i := 5) (oi := { dst := some 8, op := Op.fieldAddr 81 (Operand.tmp 7) 2, type := 0, pos := "strings.go:137", after := #[{ on := 4, ground := Ground.data }], guard := none }) (v := .pointer (some ⟨g, 2, none⟩)) rfl (by kernel_rfl) (by kernel_rfl) (by kernel_rfl) (fun _ _ _ h => h) (Or.inl ⟨by rfl, ?_⟩) (by assumption) ?_
    · (intro w hSw; (try dsimp only at hSw); go_simp)
    try simp only [Act.put, List.setIfInBounds_toArray, List.set_cons_zero, List.set_cons_succ]
    refine wpAnyH_take (i := 6) (oi := { dst := some 9, op := Op.load 3 (Operand.tmp 8), type := 3, pos := "strings.go:137", after := #[{ on := 5, ground := Ground.data }], guard := none }) (v := .int .i64 count) rfl (by kernel_rfl) (by kernel_rfl) (by kernel_rfl) (fun _ _ _ h => h) (Or.inl ⟨by rfl, ?_⟩) (by assumption) ?_
    · (intro w hSw; (try dsimp only at hSw); go_simp)
    try simp only [Act.put, List.setIfInBounds_toArray, List.set_cons_zero, List.set_cons_succ]
    refine wpAnyH_ready (rs := [7]) (by kernel_rfl) (by simp) ?_
    refine AllReadyH.cons (o := { dst := some 10, op := Op.call { callee := Callee.value (Operand.func 51), args := #[Operand.tmp 5, Operand.tmp 9], argTypes := #[79, 3] }, type := 22, pos := "strings.go:137", after := #[{ on := 2, ground := Ground.data }, { on := 6, ground := Ground.data }], guard := none }) rfl (fun K hK => ?_) ?_
    · go_simp
      go_at_call 51
      refine (HT.out _ HI1.out).mono ?_
      rintro e W1 ⟨hb1, hg1, v, rfl, hI1, ho1⟩
      have HI2 := Aside0.mk hI1
      have HG2 := Aside0.mk (grown_trans HG1.out hg1)
      have HO2 := Aside0.mk (show Kd.string.R 9 W1 W.heap.size (fun _ => True) v l from Kd.R_lower ho1 HG1.out.size)
      have q2 : W1.cell? ⟨g, 2, none⟩ = some (.int .i64 count) := by obtain ⟨_, _, hg, _⟩ := hI1; exact blk_cell hg 2
      clear hb1 hg1 hI1 ho1 HG1 HI1
      refine hK.out _ _ (q2) (fun hHeld2 => ?_)
      clear hK K hHeld
      have hHeld := hHeld2
      clear hHeld2
      try simp only [Act.put, List.setIfInBounds_toArray, List.set_cons_zero, List.set_cons_succ]
      refine wpAnyH_ready (rs := [8]) (by kernel_rfl) (by simp) ?_
      refine AllReadyH.cons (o := { dst := some 2, op := Op.assign (Operand.tmp 10), type := 22, pos := "strings.go:137", after := #[{ on := 7, ground := Ground.data }, { on := 7, ground := Ground.chain }, { on := 0, ground := Ground.phase }, { on := 1, ground := Ground.phase }, { on := 2, ground := Ground.phase }, { on := 3, ground := Ground.phase }, { on := 4, ground := Ground.phase }, { on := 5, ground := Ground.phase }, { on := 6, ground := Ground.phase }, { on := 7, ground := Ground.phase }], guard := none }) rfl (fun K hK => ?_) ?_
      · go_simp
        refine hK.out _ _ (q2) (fun hHeld2 => ?_)
        clear hK K hHeld
        have hHeld := hHeld2
        clear hHeld2
        try simp only [Act.put, List.setIfInBounds_toArray, List.set_cons_zero, List.set_cons_succ]
        refine wpAnyH_done (by kernel_rfl) ?_ _
        go_wp2
        go_ret
        exact ⟨HI2.out.below, HG2.out, _, rfl, HI2.out, HO2.out⟩
      exact AllReadyH.nil
    exact AllReadyH.nil
theorem read_no (p0 p1 : Addr) (w : World) :
    CallsD Try.prog 49 #[.pointer (some p0), .pointer (some p1)] .returning w fun e u' w' => (∃ v, e = .returned v) ∧ u' = .returning ∧ w' = w := by
  refine callsD_of_wpS Try.func49 rfl fun c₀ cs hu => ?_
  apply wpS_seq
  apply wpS_region
  simp [wpOpsS, go_sem, recoverD, hu, Try.ntmps49, Exit.thenS]
  refine wpS_of_wp ?_
  go_wp2_with fail
  cases c₀
  simp_all [bodyPostS, results, Try.results49]
theorem read_set {g : Nat} {u0 u1 : Value} {t0 t1 : TypeId} {why : Int} {w w3 : World} (hB : Below g w w3) (b0 : w3.heap[g]? = some (.cells #[u0] t0 (0, 0))) (b1 : w3.heap[g + 1]? = some (.cells #[u1] t1 (0, 0))) :
    Below g w ((w3.setCell ⟨g, 0, none⟩ (.slice none 0 0)).setCell ⟨g + 1, 0, none⟩ (.int .i64 why)) ∧
      ((w3.setCell ⟨g, 0, none⟩ (.slice none 0 0)).setCell ⟨g + 1, 0, none⟩ (.int .i64 why)).heap[g]? = some (.cells #[.slice none 0 0] t0 (0, 0)) ∧
      ((w3.setCell ⟨g, 0, none⟩ (.slice none 0 0)).setCell ⟨g + 1, 0, none⟩ (.int .i64 why)).heap[g + 1]? = some (.cells #[.int .i64 why] t1 (0, 0)) := by
  have e1 := blk_far b1 (p := ⟨g, 0, none⟩) (by simp) (.slice none 0 0)
  have e0 := blk_set b0 0 (.slice none 0 0)
  exact ⟨(hB.setCell (by simp) _).setCell (by simp) _, blk_far e0 (p := ⟨g + 1, 0, none⟩) (by simp) _, blk_set e1 0 _⟩
theorem read_assert (why : Int) (W : World) : (Instr.typeAssert (.iface 77 (.agg #[.int .i64 why])) 20 77 true).run Try.prog W = .ok (.tuple #[.agg #[.int .i64 why], .bool true]) W := by kernel_rfl
set_option maxRecDepth 100000 in
set_option maxHeartbeats 1000000 in
theorem read_yes (g : Nat) (u0 u1 : Value) (t0 t1 : TypeId) (why : Int) (w : World) (h0 : w.heap[g]? = some (.cells #[u0] t0 (0, 0))) (h1 : w.heap[g + 1]? = some (.cells #[u1] t1 (0, 0))) :
    CallsD Try.prog 49 #[.pointer (some ⟨g, 0, none⟩), .pointer (some ⟨g + 1, 0, none⟩)] (.panicking (sailP why)) w fun e u' w' =>
      (∃ v, e = .returned v) ∧ u' = .panicking [{ v := .iface 77 (.agg #[.int .i64 why]), recovered := true }] ∧ Below g w w' ∧ w'.heap[g]? = some (.cells #[.slice none 0 0] t0 (0, 0)) ∧ w'.heap[g + 1]? = some (.cells #[.int .i64 why] t1 (0, 0)) := by
  refine callsD_of_wpS Try.func49 rfl fun c₀ cs hu => ?_
  unfold sailP at hu
  apply wpS_seq
  apply wpS_region
  simp [wpOpsS, go_sem, recoverD, hu, Try.ntmps49, Exit.thenS]
  refine wpS_of_wp ?_
  clear hu
  have ht := read_assert why
  have e : (#[Value.pointer (some ⟨g, 0, none⟩), Value.pointer (some ⟨g + 1, 0, none⟩)] ++ (Array.replicate 11 undef).setIfInBounds 3 (.iface 77 (.agg #[.int .i64 why]))) = #[Value.pointer (some ⟨g, 0, none⟩), Value.pointer (some ⟨g + 1, 0, none⟩), undef, undef, undef, .iface 77 (.agg #[.int .i64 why]), undef, undef, undef, undef, undef, undef, undef] := rfl
  rw [e]
  clear e
  go_wp2_with fail
  refine wp_region_held_drew (S := fun w' => w'.cell? ⟨w.heap.size, 0, none⟩ = some (.int .i64 why)) (by kernel_rfl) (blk_cell (blk_new w _) 0) (fun hHeld => ?_)
  refine anyH_named fun w3 hw3 => ?_
  have hlt := blk_lt h1
  have b0 : w3.heap[g]? = some (.cells #[u0] t0 (0, 0)) := by rw [hw3]; exact blk_alloc h0 _
  have b1 : w3.heap[g + 1]? = some (.cells #[u1] t1 (0, 0)) := by rw [hw3]; exact blk_alloc h1 _
  have bf : w3.heap[w.heap.size]? = some (.cells #[.int .i64 why] 77 (0, 0)) := by rw [hw3]; exact blk_new _ _
  have HB := Aside0.mk (show Below g w w3 from (by rw [hw3]; exact below_drew1 ((below_alloc (Below.refl w.heap.size w) _).mono (by omega))))
  have B0 := Aside0.mk b0
  have B1 := Aside0.mk b1
  have e0 := blk_set b0 0 (.slice none 0 0)
  have e1 := blk_far b1 (p := ⟨g, 0, none⟩) (by simp) (.slice none 0 0)
  have ef := blk_far bf (p := ⟨g, 0, none⟩) (by simp; omega) (.slice none 0 0)
  have df := blk_far ef (p := ⟨g + 1, 0, none⟩) (by simp; omega) (.int .i64 why)
  have c0 := blk_cell b0 0
  have z0 := blk_frozen b0 0
  have c1 := blk_cell e1 0
  have z1 := blk_frozen e1 0
  have F0 := Aside0.mk ((blk_cell bf 0).trans (show _ = some (Value.int .i64 why) from rfl))
  have F1 := Aside0.mk ((blk_cell ef 0).trans (show _ = some (Value.int .i64 why) from rfl))
  have F2 := Aside0.mk ((blk_cell df 0).trans (show _ = some (Value.int .i64 why) from rfl))
  clear hHeld
  have hHeld := F0.out
  clear hw3 h0 h1 b0 b1 bf e0 e1 ef df
  refine wpAnyH_take (i := 0) (oi := { dst := some 11, op := Op.fieldAddr 77 (Operand.tmp 3) 0, type := 0, pos := "strings.go:166", after := #[{ on := 2, ground := Ground.gcOnly Departure.lateStores }], guard := none }) (v := .pointer (some ⟨w.heap.size, 0, none⟩)) rfl (by kernel_rfl) (by kernel_rfl) (by kernel_rfl) (fun _ _ _ h => h) (Or.inl ⟨by rfl, ?_⟩) (by assumption) ?_
  · (intro w hSw; (try dsimp only at hSw); go_simp)
  try simp only [Act.put, List.setIfInBounds_toArray, List.set_cons_zero, List.set_cons_succ]
  refine wpAnyH_take (i := 1) (oi := { dst := some 12, op := Op.load 26 (Operand.tmp 11), type := 26, pos := "strings.go:166", after := #[{ on := 0, ground := Ground.data }, { on := 2, ground := Ground.gcOnly Departure.lateStores }], guard := none }) (v := .int .i64 why) rfl (by kernel_rfl) (by kernel_rfl) (by kernel_rfl) (fun _ _ _ h => h) (Or.inl ⟨by rfl, ?_⟩) (by assumption) ?_
  · (intro w hSw; (try dsimp only at hSw); go_simp)
  try simp only [Act.put, List.setIfInBounds_toArray, List.set_cons_zero, List.set_cons_succ]
  refine wpAnyH_ready (rs := [2]) (by kernel_rfl) (by simp) ?_
  refine AllReadyH.cons (o := { dst := none, op := Op.store 22 (Operand.tmp 0) (Operand.const (Value.slice none 0 0)), type := 0, pos := "strings.go:166", after := #[{ on := 0, ground := Ground.textOnly Departure.lateStores }, { on := 1, ground := Ground.textOnly Departure.lateStores }], guard := none }) rfl (fun K hK => ?_) ?_
  · go_simp
    refine hK.out _ _ (F1.out) (fun hHeld2 => ?_)
    clear hK K hHeld
    have hHeld := hHeld2
    clear hHeld2
    try simp only [Act.put, List.setIfInBounds_toArray, List.set_cons_zero, List.set_cons_succ]
    refine wpAnyH_ready (rs := [3]) (by kernel_rfl) (by simp) ?_
    refine AllReadyH.cons (o := { dst := none, op := Op.store 26 (Operand.tmp 1) (Operand.tmp 12), type := 0, pos := "strings.go:166", after := #[{ on := 1, ground := Ground.data }, { on := 2, ground := Ground.chain }, { on := 0, ground := Ground.phase }, { on := 1, ground := Ground.phase }, { on := 2, ground := Ground.phase }], guard := none }) rfl (fun K hK => ?_) ?_
    · go_simp
      refine hK.out _ _ (F2.out) (fun hHeld2 => ?_)
      clear hK K hHeld
      have hHeld := hHeld2
      clear hHeld2
      try simp only [Act.put, List.setIfInBounds_toArray, List.set_cons_zero, List.set_cons_succ]
      refine wpAnyH_done (by kernel_rfl) ?_ _
      go_wp2_with fail
      cases c₀
      simp_all [bodyPostS, results, Try.results49]
      exact read_set HB.out B0.out B1.out
    exact AllReadyH.nil
  exact AllReadyH.nil
end Go.Proofs.Ytcdephhplmcmjaa.X
end

section
namespace Go.Proofs.Ytcdephhplmcmjaa.X
open Go.RowKit Go.Proofs.YtcdephhplmcmjaaW.PrintWords Go.Proofs.YtcdephhplmcmjaaW.PrintLast Go.Proofs.YtcdephhplmcmjaaW.PrintMore
set_option linter.unusedVariables false
set_option linter.unusedSimpArgs false
def readT (count : Int) (res : Except Int (List ByteArray × List Int)) : List ByteArray × Int :=
  if count < 0 ∨ 65536 < count then ([], 2) else match res with
    | .error x => ([], x)
    | .ok (l, r) => if r.length = 0 then (l, 0) else ([], 7)
def ReE (w0 : World) (a : List ByteArray × Int) (e : Ending) (w : World) : Prop :=
  ∃ lv, e = .returned (.tuple #[lv, .int .i64 a.2]) ∧ Kd.string.R 9 w w0.heap.size (fun _ => True) lv a.1 ∧ Below w0.heap.size w0 w
theorem re_results (tmps : Array Value) (w : World) (g : Nat) (A : Option Addr) (m c : Nat) (x : Int) (h2 : tmps.getD 6 undef = .pointer (some ⟨g, 0, none⟩)) (h3 : tmps.getD 7 undef = .pointer (some ⟨g + 1, 0, none⟩))
    (k2 : w.heap[g]? = some (.cells #[.slice A m c] 22 (0, 0))) (k3 : w.heap[g + 1]? = some (.cells #[.int .i64 x] 26 (0, 0))) :
    (results Try.f35 tmps).run Try.prog w = .ok (.tuple #[.slice A m c, .int .i64 x]) w := by
  have h2' : tmps[6]?.getD undef = .pointer (some ⟨g, 0, none⟩) := by simpa using h2
  have h3' : tmps[7]?.getD undef = .pointer (some ⟨g + 1, 0, none⟩) := by simpa using h3
  have c2 : w.cell? ⟨g, 0, none⟩ = some (.slice A m c) := blk_cell k2 0
  have c3 : w.cell? ⟨g + 1, 0, none⟩ = some (.int .i64 x) := blk_cell k3 0
  have r2 : (loadVar 22 ⟨g, 0, none⟩).run Try.prog w = .ok (.slice A m c) w := by
    simp [loadVar, isAgg, Sem.run_bind, run_underlying Try.underlying22, c2, go_sem]
  have r3 : (loadVar 26 ⟨g + 1, 0, none⟩).run Try.prog w = .ok (.int .i64 x) w := by
    simp [loadVar, isAgg, Sem.run_bind, run_underlying Try.underlying26, c3, go_sem]
  simp [results, Try.results35, h2', h3', asAddr, r2, r3]
structure ReB (w0 : World) (lv : Value) (x : Int) (w : World) : Prop where
  hb : Below w0.heap.size w0 w
  h0 : w.heap[w0.heap.size]? = some (.cells #[lv] 22 (0, 0))
  h1 : w.heap[w0.heap.size + 1]? = some (.cells #[.int .i64 x] 26 (0, 0))
def reDef (w0 : World) : List Deferred := [{ target := .fn (.func 49) #[.pointer (some ⟨w0.heap.size, 0, none⟩), .pointer (some ⟨w0.heap.size + 1, 0, none⟩)], args := #[] }]
theorem re_giveup {w0 w1 : World} {why x : Int} {lv : Value} (tmps : Array Value) (h2 : tmps.getD 6 undef = .pointer (some ⟨w0.heap.size, 0, none⟩)) (h3 : tmps.getD 7 undef = .pointer (some ⟨w0.heap.size + 1, 0, none⟩)) (hB : ReB w0 lv x w1) :
    bodyPostD Try.prog Try.f35 (ReE w0 ([], why)) (Exit.panic (sailP why)) { tmps := tmps, defers := reDef w0 } w1 := by
  unfold bodyPostD reDef
  refine leaves_cons (f := 49) (args := #[.pointer (some ⟨w0.heap.size, 0, none⟩), .pointer (some ⟨w0.heap.size + 1, 0, none⟩)]) (by simp) (by simp [go_sem]) ?_
  refine (read_yes w0.heap.size _ _ _ _ why w1 hB.h0 hB.h1).mono ?_
  rintro e u' w' ⟨⟨v, rfl⟩, rfl, hb, k0, k1⟩
  exact ⟨_, re_results tmps _ _ _ _ _ _ h2 h3 k0 k1, _, rfl, Kd.R_nil _ _ _ _ _, hB.hb.trans hb⟩
theorem re_done {w0 w1 : World} {A : Option Addr} {c : Nat} {l : List ByteArray} (tmps : Array Value) (h2 : tmps.getD 6 undef = .pointer (some ⟨w0.heap.size, 0, none⟩)) (h3 : tmps.getD 7 undef = .pointer (some ⟨w0.heap.size + 1, 0, none⟩)) (hB : ReB w0 (.slice A l.length c) 0 w1)
    (ho : Kd.string.R 9 w1 w0.heap.size (fun _ => True) (.slice A l.length c) l) :
    bodyPostD Try.prog Try.f35 (ReE w0 (l, 0)) Exit.ret { tmps := tmps, defers := reDef w0 } w1 := by
  unfold bodyPostD reDef
  refine leaves_cons (f := 49) (args := #[.pointer (some ⟨w0.heap.size, 0, none⟩), .pointer (some ⟨w0.heap.size + 1, 0, none⟩)]) (by simp) (by simp [go_sem]) ?_
  refine (read_no ⟨w0.heap.size, 0, none⟩ ⟨w0.heap.size + 1, 0, none⟩ w1).mono ?_
  rintro e u' w' ⟨⟨v, rfl⟩, rfl, rfl⟩
  exact ⟨_, re_results tmps _ _ _ _ _ _ h2 h3 hB.h0 hB.h1, _, rfl, ho, hB.hb⟩
theorem re_bad {w0 w1 : World} {why : Int} (tmps : Array Value) (h2 : tmps.getD 6 undef = .pointer (some ⟨w0.heap.size, 0, none⟩)) (h3 : tmps.getD 7 undef = .pointer (some ⟨w0.heap.size + 1, 0, none⟩)) (hB : ReB w0 (.slice none 0 0) why w1) :
    bodyPostD Try.prog Try.f35 (ReE w0 ([], why)) Exit.ret { tmps := tmps, defers := [] } w1 := by
  unfold bodyPostD
  exact ⟨_, re_results tmps _ _ _ _ _ _ h2 h3 hB.h0 hB.h1, _, rfl, Kd.R_nil _ _ _ _ _, hB.hb⟩
theorem re_two (w : World) (why : Int) : ReB w (.slice none 0 0) why ((w.alloc (.cells #[.slice none 0 0] 22)).alloc (.cells #[.int .i64 why] 26)) := by
  refine ⟨below_alloc (below_alloc (Below.refl _ _) _) _, blk_alloc (blk_new _ _) _, ?_⟩
  have := blk_new (w.alloc (.cells #[.slice none 0 0] 22)) (.cells #[.int .i64 why] 26)
  rwa [World.size_alloc] at this
abbrev w2Z (w : World) : World := (w.alloc (.cells #[.slice none 0 0] 22)).alloc (.cells #[.int .i64 0] 26)
theorem w2Z_h1 (w : World) : (w2Z w).heap[w.heap.size + 1]? = some (.cells #[.int .i64 0] 26 (0, 0)) := by
  have := blk_new (w.alloc (.cells #[.slice none 0 0] 22)) (.cells #[.int .i64 0] 26)
  rwa [World.size_alloc] at this
theorem w2Z_size (w : World) : (w2Z w).heap.size = w.heap.size + 1 + 1 := by rw [World.size_alloc, World.size_alloc]
theorem re_start (w : World) (o : Obj) : ReB w (.slice none 0 0) 0 ((w2Z w).alloc o) :=
  ⟨below_alloc (below_alloc (below_alloc (Below.refl _ _) _) _) _, blk_alloc (blk_alloc (blk_new _ _) _) _, blk_alloc (w2Z_h1 w) _⟩
theorem re_reader (w : World) (A : Option Addr) (b : List Int) (c : Nat) (count : Int) (hC : Kd.C (Kd.int .u8) w A b.length b) (hc : b.length ≤ c) (hu : ∀ x ∈ b, 0 ≤ x ∧ x ≤ 255) (hl : b.length ≤ 140737488355328) : LfI w (w.heap.size + 1 + 1) (.slice A b.length c) (.int .i64 count) b ((w2Z w).alloc (.cells #[.slice A b.length c, .slice A b.length c, .int .i64 count] 81)) := by
  refine ⟨A, c, ?_, hC, hc, (re_start w _).hb, by omega, hu, hl⟩
  have := blk_new (w2Z w) (.cells #[.slice A b.length c, .slice A b.length c, .int .i64 count] 81)
  rwa [w2Z_size] at this
theorem ReB.set0 {w0 w : World} {lv v : Value} {x : Int} (h : ReB w0 lv x w) : ReB w0 v x (w.setCell ⟨w0.heap.size, 0, none⟩ v) :=
  ⟨h.hb.setCell (by simp) _, blk_set h.h0 0 _, blk_far h.h1 (p := ⟨w0.heap.size, 0, none⟩) (by simp) _⟩
theorem ReB.set1 {w0 w : World} {lv : Value} {x y : Int} (h : ReB w0 lv x w) : ReB w0 lv y (w.setCell ⟨w0.heap.size + 1, 0, none⟩ (.int .i64 y)) :=
  ⟨h.hb.setCell (by simp) _, blk_far h.h0 (p := ⟨w0.heap.size + 1, 0, none⟩) (by simp) _, blk_set h.h1 0 _⟩
theorem ReB.reader {w0 w w' : World} {lv : Value} {x : Int} (h : ReB w0 lv x w) (hg : w.grownBy w' (some (w0.heap.size + 1 + 1))) (hb : Below w0.heap.size w0 w') : ReB w0 lv x w' :=
  ⟨hb, blk_grown h.h0 hg (by simp; omega), blk_grown h.h1 hg (by simp)⟩
set_option maxRecDepth 100000 in
set_option maxHeartbeats 8000000 in
theorem read_lengths (A : Option Addr) (c : Nat) (b : List Int) (count : Int) (w : World) (hC : Kd.C (Kd.int .u8) w A b.length b) (hc : b.length ≤ c) (hu : ∀ x ∈ b, 0 ≤ x ∧ x ≤ 255) (hl : b.length ≤ 140737488355328) :
    Calls Try.prog 35 #[.slice A b.length c, .int .i64 count, .func (.func 36) #[] #[]] w (ReE w (readT count (textsT count b))) := by
  have hmf : ∀ (fn : Fn) (first cap : Array Value) (w : World), (Instr.makeFunc fn first cap).run Try.prog w = .ok (.func fn first cap) w := fun _ _ _ _ => rfl
  have MO := Aside0.mk (fun why W => st_must_ok why W)
  have MN := Aside0.mk (fun why W => st_must_no why W)
  by_cases hcnt : count < 0 ∨ 65536 < count
  · have ha : readT count (textsT count b) = ([], 2) := by unfold readT; rw [if_pos hcnt]
    rw [ha]
    clear hC hu hl ha
    by_cases hneg : count < 0
    · have q1 : decide (count < 0) = true := decide_eq_true hneg
      clear hneg hcnt
      go_enter_defers Try.func35, Try.ntmps35
      go_wp2_with fail
      exact re_bad _ rfl rfl (re_two w 2)
    · have q1 : decide (count < 0) = false := decide_eq_false hneg
      have q2 : decide (count > 65536) = true := decide_eq_true (by omega)
      clear hneg hcnt
      go_enter_defers Try.func35, Try.ntmps35
      go_wp2_with fail
      exact re_bad _ rfl rfl (re_two w 2)
  · have HA := Aside0.mk (show readT count (textsT count b) = (match textsT count b with | .error x => ([], x) | .ok (l, r) => if r.length = 0 then (l, 0) else ([], 7)) from by unfold readT; rw [if_neg hcnt])
    obtain ⟨ans, hans⟩ : ∃ a, a = readT count (textsT count b) := ⟨_, rfl⟩
    have HANS := Aside0.mk hans
    rw [← hans]
    clear hans
    have q1 : decide (count < 0) = false := decide_eq_false (by omega)
    have q2 : decide (count > 65536) = false := decide_eq_false (by omega)
    have HW := Aside0.mk (fun Wz (h : LfI w (w.heap.size + 1 + 1) (.slice A b.length c) (.int .i64 count) b Wz) => rd_lengths w (w.heap.size + 1 + 1) (.slice A b.length c) count b Wz h)
    have HI := Aside0.mk (re_reader w A b c count hC hc hu hl)
    have HB0 := Aside0.mk (re_start w (.cells #[.slice A b.length c, .slice A b.length c, .int .i64 count] 81))
    clear hC hu hl hcnt
    go_enter_defers Try.func35, Try.ntmps35
    go_wp2_with fail
    refine calls_namedW fun W4 hW4 => ?_
    have HI4 := Aside0.mk (show LfI w (w.heap.size + 1 + 1) (.slice A b.length c) (.int .i64 count) b W4 from (by rw [hW4]; exact HI.out))
    have HB4 := Aside0.mk (show ReB w (.slice none 0 0) 0 W4 from (by rw [hW4]; exact HB0.out))
    clear hW4 HI HB0
    refine (HW.out W4 HI4.out).mono ?_
    rintro e W5 ⟨hb5, hg5, h5⟩
    have HB5 := Aside0.mk (HB4.out.reader hg5 hb5)
    have HSZ4 := Aside0.mk HB4.out.hb.size
    clear hb5 hg5 HI4 HB4 HW
    cases hr : textsT count b with
    | error y =>
      rw [hr] at h5
      have h5 : e = .panicked (sailP y) := h5
      subst h5
      obtain rfl : ans = ([], y) := by rw [HANS.out, HA.out, hr]
      exact re_giveup _ rfl rfl HB5.out
    | ok p =>
      obtain ⟨l, r⟩ := p
      rw [hr] at h5
      have HR := Aside0.mk hr
      obtain ⟨lv, h51, h52, h53⟩ : ∃ lv, e = .returned lv ∧ LfI w (w.heap.size + 1 + 1) (.slice A b.length c) (.int .i64 count) r W5 ∧ Kd.string.R 9 W5 W4.heap.size (fun _ => True) lv l := h5
      subst h51
      obtain ⟨Al, cl, rfl⟩ := Kd.R_slice h53
      have HO5 := Aside0.mk (Kd.R_lower h53 HSZ4.out)
      obtain ⟨Ar, cr, hrd, _⟩ := h52
      have c0 : W5.cell? ⟨w.heap.size, 0, none⟩ = some (.slice none 0 0) := blk_cell HB5.out.h0 0
      have f0 : W5.frozen? ⟨w.heap.size, 0, none⟩ = false := blk_frozen HB5.out.h0 0
      have HB6 := Aside0.mk (HB5.out.set0 (v := .slice Al l.length cl))
      have HO6 := Aside0.mk (R_set HO5.out HB5.out.h0 (by decide) 0 (.slice Al l.length cl))
      have hrd6 := blk_far hrd (p := ⟨w.heap.size, 0, none⟩) (by simp; omega) (.slice Al l.length cl)
      have HB7 := Aside0.mk (HB6.out.set0 (v := .slice Al l.length cl))
      have HO7 := Aside0.mk (R_set HO6.out HB6.out.h0 (by decide) 0 (.slice Al l.length cl))
      have HB8 := Aside0.mk (HB7.out.set1 (y := 0))
      have HO8 := Aside0.mk (R_set HO7.out HB7.out.h1 (by decide) 0 (.int .i64 0))
      have c3 : (W5.setCell ⟨w.heap.size, 0, none⟩ (.slice Al l.length cl)).cell? ⟨w.heap.size + 1 + 1, 0, none⟩ = some (.slice Ar r.length cr) := blk_cell hrd6 0
      have d0 : (W5.setCell ⟨w.heap.size, 0, none⟩ (.slice Al l.length cl)).cell? ⟨w.heap.size, 0, none⟩ = some (.slice Al l.length cl) := blk_cell HB6.out.h0 0
      have g0 : (W5.setCell ⟨w.heap.size, 0, none⟩ (.slice Al l.length cl)).frozen? ⟨w.heap.size, 0, none⟩ = false := blk_frozen HB6.out.h0 0
      have d1 : ((W5.setCell ⟨w.heap.size, 0, none⟩ (.slice Al l.length cl)).setCell ⟨w.heap.size, 0, none⟩ (.slice Al l.length cl)).cell? ⟨w.heap.size + 1, 0, none⟩ = some (.int .i64 0) := blk_cell HB7.out.h1 0
      have g1 : ((W5.setCell ⟨w.heap.size, 0, none⟩ (.slice Al l.length cl)).setCell ⟨w.heap.size, 0, none⟩ (.slice Al l.length cl)).frozen? ⟨w.heap.size + 1, 0, none⟩ = false := blk_frozen HB7.out.h1 0
      clear h53 hrd hr hrd6 HB5 HO5 HO6
      by_cases hz : r.length = 0
      · have qz : ((r.length : Int) == 0) = true := beq_iff_eq.2 (by omega)
        obtain rfl : ans = (l, 0) := by rw [HANS.out, HA.out, HR.out]; exact if_pos hz
        clear hz HANS
        go_wp2_with fail
        refine (MO.out _ _).mono ?_
        rintro e W8 ⟨⟨v8, rfl⟩, hx⟩
        have hx := hx.symm
        subst hx
        go_wp2_with fail
        exact re_done _ rfl rfl HB8.out HO8.out
      · have qz : ((r.length : Int) == 0) = false := beq_eq_false_iff_ne.2 (by omega)
        obtain rfl : ans = ([], 7) := by rw [HANS.out, HA.out, HR.out]; exact if_neg hz
        clear hz HANS
        go_wp2_with fail
        refine (MN.out _ _).mono ?_
        rintro e W8 ⟨rfl, hx⟩
        have hx := hx.symm
        subst hx
        exact re_giveup _ rfl rfl HB6.out
set_option maxRecDepth 100000 in
set_option maxHeartbeats 8000000 in
theorem read_prefixes (A : Option Addr) (c : Nat) (b : List Int) (count : Int) (w : World) (hC : Kd.C (Kd.int .u8) w A b.length b) (hc : b.length ≤ c) (hu : ∀ x ∈ b, 0 ≤ x ∧ x ≤ 255) (hl : b.length ≤ 140737488355328) :
    Calls Try.prog 35 #[.slice A b.length c, .int .i64 count, .func (.func 38) #[] #[]] w (ReE w (readT count (prefT count b b))) := by
  have hmf : ∀ (fn : Fn) (first cap : Array Value) (w : World), (Instr.makeFunc fn first cap).run Try.prog w = .ok (.func fn first cap) w := fun _ _ _ _ => rfl
  have MO := Aside0.mk (fun why W => st_must_ok why W)
  have MN := Aside0.mk (fun why W => st_must_no why W)
  by_cases hcnt : count < 0 ∨ 65536 < count
  · have ha : readT count (prefT count b b) = ([], 2) := by unfold readT; rw [if_pos hcnt]
    rw [ha]
    clear hC hu hl ha
    by_cases hneg : count < 0
    · have q1 : decide (count < 0) = true := decide_eq_true hneg
      clear hneg hcnt
      go_enter_defers Try.func35, Try.ntmps35
      go_wp2_with fail
      exact re_bad _ rfl rfl (re_two w 2)
    · have q1 : decide (count < 0) = false := decide_eq_false hneg
      have q2 : decide (count > 65536) = true := decide_eq_true (by omega)
      clear hneg hcnt
      go_enter_defers Try.func35, Try.ntmps35
      go_wp2_with fail
      exact re_bad _ rfl rfl (re_two w 2)
  · have HA := Aside0.mk (show readT count (prefT count b b) = (match prefT count b b with | .error x => ([], x) | .ok (l, r) => if r.length = 0 then (l, 0) else ([], 7)) from by unfold readT; rw [if_neg hcnt])
    obtain ⟨ans, hans⟩ : ∃ a, a = readT count (prefT count b b) := ⟨_, rfl⟩
    have HANS := Aside0.mk hans
    rw [← hans]
    clear hans
    have q1 : decide (count < 0) = false := decide_eq_false (by omega)
    have q2 : decide (count > 65536) = false := decide_eq_false (by omega)
    have HW := Aside0.mk (fun Wz (h : LfI w (w.heap.size + 1 + 1) (.slice A b.length c) (.int .i64 count) b Wz) => rd_prefixes w (w.heap.size + 1 + 1) A c count b b Wz h hC hc (Nat.le_refl _))
    have HI := Aside0.mk (re_reader w A b c count hC hc hu hl)
    have HB0 := Aside0.mk (re_start w (.cells #[.slice A b.length c, .slice A b.length c, .int .i64 count] 81))
    clear hC hu hl hcnt
    go_enter_defers Try.func35, Try.ntmps35
    go_wp2_with fail
    refine calls_namedW fun W4 hW4 => ?_
    have HI4 := Aside0.mk (show LfI w (w.heap.size + 1 + 1) (.slice A b.length c) (.int .i64 count) b W4 from (by rw [hW4]; exact HI.out))
    have HB4 := Aside0.mk (show ReB w (.slice none 0 0) 0 W4 from (by rw [hW4]; exact HB0.out))
    clear hW4 HI HB0
    refine (HW.out W4 HI4.out).mono ?_
    rintro e W5 ⟨hb5, hg5, h5⟩
    have HB5 := Aside0.mk (HB4.out.reader hg5 hb5)
    have HSZ4 := Aside0.mk HB4.out.hb.size
    clear hb5 hg5 HI4 HB4 HW
    cases hr : prefT count b b with
    | error y =>
      rw [hr] at h5
      have h5 : e = .panicked (sailP y) := h5
      subst h5
      obtain rfl : ans = ([], y) := by rw [HANS.out, HA.out, hr]
      exact re_giveup _ rfl rfl HB5.out
    | ok p =>
      obtain ⟨l, r⟩ := p
      rw [hr] at h5
      have HR := Aside0.mk hr
      obtain ⟨lv, h51, h52, h53⟩ : ∃ lv, e = .returned lv ∧ LfI w (w.heap.size + 1 + 1) (.slice A b.length c) (.int .i64 count) r W5 ∧ Kd.string.R 9 W5 W4.heap.size (fun _ => True) lv l := h5
      subst h51
      obtain ⟨Al, cl, rfl⟩ := Kd.R_slice h53
      have HO5 := Aside0.mk (Kd.R_lower h53 HSZ4.out)
      obtain ⟨Ar, cr, hrd, _⟩ := h52
      have c0 : W5.cell? ⟨w.heap.size, 0, none⟩ = some (.slice none 0 0) := blk_cell HB5.out.h0 0
      have f0 : W5.frozen? ⟨w.heap.size, 0, none⟩ = false := blk_frozen HB5.out.h0 0
      have HB6 := Aside0.mk (HB5.out.set0 (v := .slice Al l.length cl))
      have HO6 := Aside0.mk (R_set HO5.out HB5.out.h0 (by decide) 0 (.slice Al l.length cl))
      have hrd6 := blk_far hrd (p := ⟨w.heap.size, 0, none⟩) (by simp; omega) (.slice Al l.length cl)
      have HB7 := Aside0.mk (HB6.out.set0 (v := .slice Al l.length cl))
      have HO7 := Aside0.mk (R_set HO6.out HB6.out.h0 (by decide) 0 (.slice Al l.length cl))
      have HB8 := Aside0.mk (HB7.out.set1 (y := 0))
      have HO8 := Aside0.mk (R_set HO7.out HB7.out.h1 (by decide) 0 (.int .i64 0))
      have c3 : (W5.setCell ⟨w.heap.size, 0, none⟩ (.slice Al l.length cl)).cell? ⟨w.heap.size + 1 + 1, 0, none⟩ = some (.slice Ar r.length cr) := blk_cell hrd6 0
      have d0 : (W5.setCell ⟨w.heap.size, 0, none⟩ (.slice Al l.length cl)).cell? ⟨w.heap.size, 0, none⟩ = some (.slice Al l.length cl) := blk_cell HB6.out.h0 0
      have g0 : (W5.setCell ⟨w.heap.size, 0, none⟩ (.slice Al l.length cl)).frozen? ⟨w.heap.size, 0, none⟩ = false := blk_frozen HB6.out.h0 0
      have d1 : ((W5.setCell ⟨w.heap.size, 0, none⟩ (.slice Al l.length cl)).setCell ⟨w.heap.size, 0, none⟩ (.slice Al l.length cl)).cell? ⟨w.heap.size + 1, 0, none⟩ = some (.int .i64 0) := blk_cell HB7.out.h1 0
      have g1 : ((W5.setCell ⟨w.heap.size, 0, none⟩ (.slice Al l.length cl)).setCell ⟨w.heap.size, 0, none⟩ (.slice Al l.length cl)).frozen? ⟨w.heap.size + 1, 0, none⟩ = false := blk_frozen HB7.out.h1 0
      clear h53 hrd hr hrd6 HB5 HO5 HO6
      by_cases hz : r.length = 0
      · have qz : ((r.length : Int) == 0) = true := beq_iff_eq.2 (by omega)
        obtain rfl : ans = (l, 0) := by rw [HANS.out, HA.out, HR.out]; exact if_pos hz
        clear hz HANS
        go_wp2_with fail
        refine (MO.out _ _).mono ?_
        rintro e W8 ⟨⟨v8, rfl⟩, hx⟩
        have hx := hx.symm
        subst hx
        go_wp2_with fail
        exact re_done _ rfl rfl HB8.out HO8.out
      · have qz : ((r.length : Int) == 0) = false := beq_eq_false_iff_ne.2 (by omega)
        obtain rfl : ans = ([], 7) := by rw [HANS.out, HA.out, HR.out]; exact if_neg hz
        clear hz HANS
        go_wp2_with fail
        refine (MN.out _ _).mono ?_
        rintro e W8 ⟨rfl, hx⟩
        have hx := hx.symm
        subst hx
        exact re_giveup _ rfl rfl HB6.out
theorem readlengths_all (A : Option Addr) (c : Nat) (b : List Int) (count : Int) (w : World) (hC : Kd.C (Kd.int .u8) w A b.length b) (hc : b.length ≤ c) (hu : ∀ x ∈ b, 0 ≤ x ∧ x ≤ 255) (hl : b.length ≤ 140737488355328) :
    Calls Try.prog 19 #[.slice A b.length c, .int .i64 count] w (ReE w (readT count (textsT count b))) := by
  have HR := Aside0.mk (read_lengths A c b count w hC hc hu hl)
  obtain ⟨⟨al, ax⟩, ha⟩ : ∃ a, a = readT count (textsT count b) := ⟨_, rfl⟩
  rw [← ha] at HR ⊢
  clear ha hC hu hl
  go_enter Try.func19, Try.ntmps19
  go_wp2_with fail
  refine HR.out.mono ?_
  rintro e W1 ⟨lv, rfl, hR, hb⟩
  have HR1 := Aside0.mk hR
  have HB1 := Aside0.mk hb
  clear hR hb
  go_wp2
  go_ret2
  exact ⟨_, rfl, HR1.out, HB1.out⟩
theorem readprefixes_all (A : Option Addr) (c : Nat) (b : List Int) (count : Int) (w : World) (hC : Kd.C (Kd.int .u8) w A b.length b) (hc : b.length ≤ c) (hu : ∀ x ∈ b, 0 ≤ x ∧ x ≤ 255) (hl : b.length ≤ 140737488355328) :
    Calls Try.prog 22 #[.slice A b.length c, .int .i64 count] w (ReE w (readT count (prefT count b b))) := by
  have HR := Aside0.mk (read_prefixes A c b count w hC hc hu hl)
  obtain ⟨⟨al, ax⟩, ha⟩ : ∃ a, a = readT count (prefT count b b) := ⟨_, rfl⟩
  rw [← ha] at HR ⊢
  clear ha hC hu hl
  go_enter Try.func22, Try.ntmps22
  go_wp2_with fail
  refine HR.out.mono ?_
  rintro e W1 ⟨lv, rfl, hR, hb⟩
  have HR1 := Aside0.mk hR
  have HB1 := Aside0.mk hb
  clear hR hb
  go_wp2
  go_ret2
  exact ⟨_, rfl, HR1.out, HB1.out⟩
end Go.Proofs.Ytcdephhplmcmjaa.X
end

section
namespace Go.Proofs.Ytcdephhplmcmjaa.X
open Go.RowKit Go.Proofs.YtcdephhplmcmjaaW.PrintWords Go.Proofs.YtcdephhplmcmjaaW.PrintLast Go.Proofs.YtcdephhplmcmjaaW.PrintMore
attribute [local go_sem] max2_int min2_int max_two min_two max_three min_three max_four min_four
set_option linter.unusedVariables false
set_option linter.unusedSimpArgs false
def strings_ReadLengths.f (l0 : List Int) (a1 : Int) : Option (List ByteArray × Int) := if u8All l0 = true ∧ l0.length ≤ 140737488355328 then some (readT a1 (textsT a1 l0)) else none
theorem strings_ReadLengths.calls (A0 : Option Addr) (c0 : Nat) (l0 : List Int) (a1 : Int) (r1 : List ByteArray) (r2 : Int) (w : World) (hr0 : Kd.C (Kd.int .u8) w A0 l0.length l0) (hc0 : l0.length ≤ c0) (h : strings_ReadLengths.f l0 a1 = some (r1, r2)) :
    Calls Try.prog 19 #[.slice A0 l0.length c0, .int .i64 a1] w fun e w' => ∃ v0_ : Value, e = .returned (.tuple #[v0_, .int .i64 r2]) ∧ Kd.R Kd.string 9 w' w.heap.size (fun _ => True) v0_ r1 ∧ Below w.heap.size w w' := by
  unfold strings_ReadLengths.f at h
  by_cases hu : u8All l0 = true ∧ l0.length ≤ 140737488355328
  · rw [if_pos hu] at h
    have h := Option.some.inj h
    refine (readlengths_all A0 c0 l0 a1 w hr0 hc0 (u8All_iff.1 hu.1) hu.2).mono ?_
    rintro e w' ⟨v, rfl, ho, hb⟩
    rw [h] at ho ⊢
    exact ⟨v, rfl, ho, hb⟩
  · rw [if_neg hu] at h; cases h
end Go.Proofs.Ytcdephhplmcmjaa.X
end

section
namespace Go.Proofs.Ytcdephhplmcmjaa.X
open Go.RowKit Go.Proofs.YtcdephhplmcmjaaW.PrintWords Go.Proofs.YtcdephhplmcmjaaW.PrintLast Go.Proofs.YtcdephhplmcmjaaW.PrintMore
attribute [local go_sem] max2_int min2_int max_two min_two max_three min_three max_four min_four
set_option linter.unusedVariables false
set_option linter.unusedSimpArgs false
def strings_ReadPrefixes.f (l0 : List Int) (a1 : Int) : Option (List ByteArray × Int) := if u8All l0 = true ∧ l0.length ≤ 140737488355328 then some (readT a1 (prefT a1 l0 l0)) else none
theorem strings_ReadPrefixes.calls (A0 : Option Addr) (c0 : Nat) (l0 : List Int) (a1 : Int) (r1 : List ByteArray) (r2 : Int) (w : World) (hr0 : Kd.C (Kd.int .u8) w A0 l0.length l0) (hc0 : l0.length ≤ c0) (h : strings_ReadPrefixes.f l0 a1 = some (r1, r2)) :
    Calls Try.prog 22 #[.slice A0 l0.length c0, .int .i64 a1] w fun e w' => ∃ v0_ : Value, e = .returned (.tuple #[v0_, .int .i64 r2]) ∧ Kd.R Kd.string 9 w' w.heap.size (fun _ => True) v0_ r1 ∧ Below w.heap.size w w' := by
  unfold strings_ReadPrefixes.f at h
  by_cases hu : u8All l0 = true ∧ l0.length ≤ 140737488355328
  · rw [if_pos hu] at h
    have h := Option.some.inj h
    refine (readprefixes_all A0 c0 l0 a1 w hr0 hc0 (u8All_iff.1 hu.1) hu.2).mono ?_
    rintro e w' ⟨v, rfl, ho, hb⟩
    rw [h] at ho ⊢
    exact ⟨v, rfl, ho, hb⟩
  · rw [if_neg hu] at h; cases h
end Go.Proofs.Ytcdephhplmcmjaa.X
end

section
namespace Go.Proofs.Ytcdephhplmcmjaa.X
open Go.RowKit Go.Proofs.YtcdephhplmcmjaaW.PrintWords Go.Proofs.YtcdephhplmcmjaaW.PrintLast Go.Proofs.YtcdephhplmcmjaaW.PrintMore
attribute [local go_sem] max2_int min2_int max_two min_two max_three min_three max_four min_four
set_option linter.unusedVariables false
set_option linter.unusedSimpArgs false
def marquetrylaw14_works.f (k : Nat)  : Option (Bool) := (strings_Lengths.f (([(⟨#[97, 98]⟩ : ByteArray), (⟨#[99]⟩ : ByteArray)] : List ByteArray))).bind fun bt129 => ((strings_Prefixes.f (([(⟨#[97, 98]⟩ : ByteArray), (⟨#[97, 98, 99]⟩ : ByteArray)] : List ByteArray))).bind fun bt136 => ((strings_ReadLengths.f bt129.1 2).bind fun bt140 => ((strings_ReadPrefixes.f bt136.1 2).bind fun bt144 => (if (strOfNums bt129.1).toList = ([128, 1, 4, 2, 4, 1, 0, 0, 0, 0, 97, 98, 99] : List UInt8) then ((marquetrylaw14_num.f bt129.2).bind fun t148 => ((marquetrylaw14_num.f bt136.2).bind fun t149 => ((marquetrylaw14_num.f bt140.2).bind fun t150 => ((marquetrylaw14_num.f bt144.2).bind fun t151 => (if (wrap64 ((wrap64 ((wrap64 (t148 + t149)) + t150)) + t151)) = 0 then ((marquetrylaw14_same.f k bt140.1 (([(⟨#[97, 98]⟩ : ByteArray), (⟨#[99]⟩ : ByteArray)] : List ByteArray))).bind fun t155 => (if t155 = true then ((marquetrylaw14_same.f k bt144.1 (([(⟨#[97, 98]⟩ : ByteArray), (⟨#[97, 98, 99]⟩ : ByteArray)] : List ByteArray))).bind fun t159 => (if t159 = true then (some ((bt136.1.length : Int) == 23)) else (some false))) else (some false))) else (some false)))))) else (some false)))))
theorem marquetrylaw14_works.mono : ∀ k, LeO (marquetrylaw14_works.f k ) (marquetrylaw14_works.f (k + 1) ) := by
 intro  k
 unfold marquetrylaw14_works.f
 repeat' first
   | (with_reducible exact marquetrylaw14_same.mono _ _ _)
   | (with_reducible exact LeO.refl _)
   | (with_reducible exact LeO.none _)
   | (with_reducible refine LeO.ite ?_ ?_)
   | (with_reducible refine LeO.bind ?_ (fun _ => ?_))
   | exact marquetrylaw14_same.mono _ _ _
   | exact LeO.none _
   | refine LeO.ite ?_ ?_
   | refine LeO.bind ?_ (fun _ => ?_)
set_option maxHeartbeats 8000000 in
set_option maxRecDepth 100000 in
theorem marquetrylaw14_works.calls (k : Nat)  (r : Bool) (w : World) (h : marquetrylaw14_works.f k  = some r) :
  Calls Try.prog 11 #[] w fun e w' => e = .returned (.bool r) ∧ Below w.heap.size w w' := by
 have HB := Aside0.mk (Below.refl w.heap.size w)
 have H : ((strings_Lengths.f (([(⟨#[97, 98]⟩ : ByteArray), (⟨#[99]⟩ : ByteArray)] : List ByteArray))).bind fun bt129 => ((strings_Prefixes.f (([(⟨#[97, 98]⟩ : ByteArray), (⟨#[97, 98, 99]⟩ : ByteArray)] : List ByteArray))).bind fun bt136 => ((strings_ReadLengths.f bt129.1 2).bind fun bt140 => ((strings_ReadPrefixes.f bt136.1 2).bind fun bt144 => (if (strOfNums bt129.1).toList = ([128, 1, 4, 2, 4, 1, 0, 0, 0, 0, 97, 98, 99] : List UInt8) then ((marquetrylaw14_num.f bt129.2).bind fun t148 => ((marquetrylaw14_num.f bt136.2).bind fun t149 => ((marquetrylaw14_num.f bt140.2).bind fun t150 => ((marquetrylaw14_num.f bt144.2).bind fun t151 => (if (wrap64 ((wrap64 ((wrap64 (t148 + t149)) + t150)) + t151)) = 0 then ((marquetrylaw14_same.f k bt140.1 (([(⟨#[97, 98]⟩ : ByteArray), (⟨#[99]⟩ : ByteArray)] : List ByteArray))).bind fun t155 => (if t155 = true then ((marquetrylaw14_same.f k bt144.1 (([(⟨#[97, 98]⟩ : ByteArray), (⟨#[97, 98, 99]⟩ : ByteArray)] : List ByteArray))).bind fun t159 => (if t159 = true then (some ((bt136.1.length : Int) == 23)) else (some false))) else (some false))) else (some false)))))) else (some false)))))) = some r := h
 clear h
 obtain ⟨y126, hy126⟩ : ∃ y_ : List ByteArray, y_ = (([(⟨#[97, 98]⟩ : ByteArray), (⟨#[99]⟩ : ByteArray)] : List ByteArray)) := ⟨_, rfl⟩
 replace H : ((strings_Lengths.f y126).bind fun bt129 => ((strings_Prefixes.f (([(⟨#[97, 98]⟩ : ByteArray), (⟨#[97, 98, 99]⟩ : ByteArray)] : List ByteArray))).bind fun bt136 => ((strings_ReadLengths.f bt129.1 2).bind fun bt140 => ((strings_ReadPrefixes.f bt136.1 2).bind fun bt144 => (if (strOfNums bt129.1).toList = ([128, 1, 4, 2, 4, 1, 0, 0, 0, 0, 97, 98, 99] : List UInt8) then ((marquetrylaw14_num.f bt129.2).bind fun t148 => ((marquetrylaw14_num.f bt136.2).bind fun t149 => ((marquetrylaw14_num.f bt140.2).bind fun t150 => ((marquetrylaw14_num.f bt144.2).bind fun t151 => (if (wrap64 ((wrap64 ((wrap64 (t148 + t149)) + t150)) + t151)) = 0 then ((marquetrylaw14_same.f k bt140.1 (([(⟨#[97, 98]⟩ : ByteArray), (⟨#[99]⟩ : ByteArray)] : List ByteArray))).bind fun t155 => (if t155 = true then ((marquetrylaw14_same.f k bt144.1 (([(⟨#[97, 98]⟩ : ByteArray), (⟨#[97, 98, 99]⟩ : ByteArray)] : List ByteArray))).bind fun t159 => (if t159 = true then (some ((bt136.1.length : Int) == 23)) else (some false))) else (some false))) else (some false)))))) else (some false)))))) = some r := by first | (rw [hy126]; with_reducible exact H) | (have H2_ := (Option.bind_some _ _).symm.trans H; rw [hy126]; with_reducible exact H2_) | (have H2_ := (Option.bind_some _ _).symm.trans H; with_reducible exact H2_) | with_reducible exact H | (rw [hy126]; exact H) | exact H
 have Ny126 := Aside0.mk hy126
 clear hy126
 replace H := Option.bind_eq_some_iff.mp H
 obtain ⟨⟨t129, t130⟩, A10, H⟩ := H
 replace H : ((strings_Prefixes.f (([(⟨#[97, 98]⟩ : ByteArray), (⟨#[97, 98, 99]⟩ : ByteArray)] : List ByteArray))).bind fun bt136 => ((strings_ReadLengths.f t129 2).bind fun bt140 => ((strings_ReadPrefixes.f bt136.1 2).bind fun bt144 => (if (strOfNums t129).toList = ([128, 1, 4, 2, 4, 1, 0, 0, 0, 0, 97, 98, 99] : List UInt8) then ((marquetrylaw14_num.f t130).bind fun t148 => ((marquetrylaw14_num.f bt136.2).bind fun t149 => ((marquetrylaw14_num.f bt140.2).bind fun t150 => ((marquetrylaw14_num.f bt144.2).bind fun t151 => (if (wrap64 ((wrap64 ((wrap64 (t148 + t149)) + t150)) + t151)) = 0 then ((marquetrylaw14_same.f k bt140.1 (([(⟨#[97, 98]⟩ : ByteArray), (⟨#[99]⟩ : ByteArray)] : List ByteArray))).bind fun t155 => (if t155 = true then ((marquetrylaw14_same.f k bt144.1 (([(⟨#[97, 98]⟩ : ByteArray), (⟨#[97, 98, 99]⟩ : ByteArray)] : List ByteArray))).bind fun t159 => (if t159 = true then (some ((bt136.1.length : Int) == 23)) else (some false))) else (some false))) else (some false)))))) else (some false))))) = some r := H
 have A1 := Aside0.mk A10
 clear A10
 obtain ⟨y133, hy133⟩ : ∃ y_ : List ByteArray, y_ = (([(⟨#[97, 98]⟩ : ByteArray), (⟨#[97, 98, 99]⟩ : ByteArray)] : List ByteArray)) := ⟨_, rfl⟩
 replace H : ((strings_Prefixes.f y133).bind fun bt136 => ((strings_ReadLengths.f t129 2).bind fun bt140 => ((strings_ReadPrefixes.f bt136.1 2).bind fun bt144 => (if (strOfNums t129).toList = ([128, 1, 4, 2, 4, 1, 0, 0, 0, 0, 97, 98, 99] : List UInt8) then ((marquetrylaw14_num.f t130).bind fun t148 => ((marquetrylaw14_num.f bt136.2).bind fun t149 => ((marquetrylaw14_num.f bt140.2).bind fun t150 => ((marquetrylaw14_num.f bt144.2).bind fun t151 => (if (wrap64 ((wrap64 ((wrap64 (t148 + t149)) + t150)) + t151)) = 0 then ((marquetrylaw14_same.f k bt140.1 (([(⟨#[97, 98]⟩ : ByteArray), (⟨#[99]⟩ : ByteArray)] : List ByteArray))).bind fun t155 => (if t155 = true then ((marquetrylaw14_same.f k bt144.1 (([(⟨#[97, 98]⟩ : ByteArray), (⟨#[97, 98, 99]⟩ : ByteArray)] : List ByteArray))).bind fun t159 => (if t159 = true then (some ((bt136.1.length : Int) == 23)) else (some false))) else (some false))) else (some false)))))) else (some false))))) = some r := by first | (rw [hy133]; with_reducible exact H) | (have H2_ := (Option.bind_some _ _).symm.trans H; rw [hy133]; with_reducible exact H2_) | (have H2_ := (Option.bind_some _ _).symm.trans H; with_reducible exact H2_) | with_reducible exact H | (rw [hy133]; exact H) | exact H
 have Ny133 := Aside0.mk hy133
 clear hy133
 replace H := Option.bind_eq_some_iff.mp H
 obtain ⟨⟨t136, t137⟩, A20, H⟩ := H
 replace H : ((strings_ReadLengths.f t129 2).bind fun bt140 => ((strings_ReadPrefixes.f t136 2).bind fun bt144 => (if (strOfNums t129).toList = ([128, 1, 4, 2, 4, 1, 0, 0, 0, 0, 97, 98, 99] : List UInt8) then ((marquetrylaw14_num.f t130).bind fun t148 => ((marquetrylaw14_num.f t137).bind fun t149 => ((marquetrylaw14_num.f bt140.2).bind fun t150 => ((marquetrylaw14_num.f bt144.2).bind fun t151 => (if (wrap64 ((wrap64 ((wrap64 (t148 + t149)) + t150)) + t151)) = 0 then ((marquetrylaw14_same.f k bt140.1 (([(⟨#[97, 98]⟩ : ByteArray), (⟨#[99]⟩ : ByteArray)] : List ByteArray))).bind fun t155 => (if t155 = true then ((marquetrylaw14_same.f k bt144.1 (([(⟨#[97, 98]⟩ : ByteArray), (⟨#[97, 98, 99]⟩ : ByteArray)] : List ByteArray))).bind fun t159 => (if t159 = true then (some ((t136.length : Int) == 23)) else (some false))) else (some false))) else (some false)))))) else (some false)))) = some r := H
 have A2 := Aside0.mk A20
 clear A20
 replace H := Option.bind_eq_some_iff.mp H
 obtain ⟨⟨t140, t141⟩, A30, H⟩ := H
 replace H : ((strings_ReadPrefixes.f t136 2).bind fun bt144 => (if (strOfNums t129).toList = ([128, 1, 4, 2, 4, 1, 0, 0, 0, 0, 97, 98, 99] : List UInt8) then ((marquetrylaw14_num.f t130).bind fun t148 => ((marquetrylaw14_num.f t137).bind fun t149 => ((marquetrylaw14_num.f t141).bind fun t150 => ((marquetrylaw14_num.f bt144.2).bind fun t151 => (if (wrap64 ((wrap64 ((wrap64 (t148 + t149)) + t150)) + t151)) = 0 then ((marquetrylaw14_same.f k t140 (([(⟨#[97, 98]⟩ : ByteArray), (⟨#[99]⟩ : ByteArray)] : List ByteArray))).bind fun t155 => (if t155 = true then ((marquetrylaw14_same.f k bt144.1 (([(⟨#[97, 98]⟩ : ByteArray), (⟨#[97, 98, 99]⟩ : ByteArray)] : List ByteArray))).bind fun t159 => (if t159 = true then (some ((t136.length : Int) == 23)) else (some false))) else (some false))) else (some false)))))) else (some false))) = some r := H
 have A3 := Aside0.mk A30
 clear A30
 replace H := Option.bind_eq_some_iff.mp H
 obtain ⟨⟨t144, t145⟩, A40, H⟩ := H
 replace H : (if (strOfNums t129).toList = ([128, 1, 4, 2, 4, 1, 0, 0, 0, 0, 97, 98, 99] : List UInt8) then ((marquetrylaw14_num.f t130).bind fun t148 => ((marquetrylaw14_num.f t137).bind fun t149 => ((marquetrylaw14_num.f t141).bind fun t150 => ((marquetrylaw14_num.f t145).bind fun t151 => (if (wrap64 ((wrap64 ((wrap64 (t148 + t149)) + t150)) + t151)) = 0 then ((marquetrylaw14_same.f k t140 (([(⟨#[97, 98]⟩ : ByteArray), (⟨#[99]⟩ : ByteArray)] : List ByteArray))).bind fun t155 => (if t155 = true then ((marquetrylaw14_same.f k t144 (([(⟨#[97, 98]⟩ : ByteArray), (⟨#[97, 98, 99]⟩ : ByteArray)] : List ByteArray))).bind fun t159 => (if t159 = true then (some ((t136.length : Int) == 23)) else (some false))) else (some false))) else (some false)))))) else (some false)) = some r := H
 have A4 := Aside0.mk A40
 clear A40
 by_cases c5 : (strOfNums t129).toList = ([128, 1, 4, 2, 4, 1, 0, 0, 0, 0, 97, 98, 99] : List UInt8)
 ·rw [if_pos c5] at H
  have c5b0 : ((strOfNums t129).toList == ([128, 1, 4, 2, 4, 1, 0, 0, 0, 0, 97, 98, 99] : List UInt8)) = true := beq_iff_eq.mpr c5
  have c5b1 : ((strOfNums t129).toList != ([128, 1, 4, 2, 4, 1, 0, 0, 0, 0, 97, 98, 99] : List UInt8)) = false := bne_eq_false_iff_eq.mpr c5
  clear c5
  replace H := Option.bind_eq_some_iff.mp H
  obtain ⟨t148, A60, H⟩ := H
  replace H : ((marquetrylaw14_num.f t137).bind fun t149 => ((marquetrylaw14_num.f t141).bind fun t150 => ((marquetrylaw14_num.f t145).bind fun t151 => (if (wrap64 ((wrap64 ((wrap64 (t148 + t149)) + t150)) + t151)) = 0 then ((marquetrylaw14_same.f k t140 (([(⟨#[97, 98]⟩ : ByteArray), (⟨#[99]⟩ : ByteArray)] : List ByteArray))).bind fun t155 => (if t155 = true then ((marquetrylaw14_same.f k t144 (([(⟨#[97, 98]⟩ : ByteArray), (⟨#[97, 98, 99]⟩ : ByteArray)] : List ByteArray))).bind fun t159 => (if t159 = true then (some ((t136.length : Int) == 23)) else (some false))) else (some false))) else (some false))))) = some r := H
  have A6 := Aside0.mk A60
  clear A60
  replace H := Option.bind_eq_some_iff.mp H
  obtain ⟨t149, A70, H⟩ := H
  replace H : ((marquetrylaw14_num.f t141).bind fun t150 => ((marquetrylaw14_num.f t145).bind fun t151 => (if (wrap64 ((wrap64 ((wrap64 (t148 + t149)) + t150)) + t151)) = 0 then ((marquetrylaw14_same.f k t140 (([(⟨#[97, 98]⟩ : ByteArray), (⟨#[99]⟩ : ByteArray)] : List ByteArray))).bind fun t155 => (if t155 = true then ((marquetrylaw14_same.f k t144 (([(⟨#[97, 98]⟩ : ByteArray), (⟨#[97, 98, 99]⟩ : ByteArray)] : List ByteArray))).bind fun t159 => (if t159 = true then (some ((t136.length : Int) == 23)) else (some false))) else (some false))) else (some false)))) = some r := H
  have A7 := Aside0.mk A70
  clear A70
  replace H := Option.bind_eq_some_iff.mp H
  obtain ⟨t150, A80, H⟩ := H
  replace H : ((marquetrylaw14_num.f t145).bind fun t151 => (if (wrap64 ((wrap64 ((wrap64 (t148 + t149)) + t150)) + t151)) = 0 then ((marquetrylaw14_same.f k t140 (([(⟨#[97, 98]⟩ : ByteArray), (⟨#[99]⟩ : ByteArray)] : List ByteArray))).bind fun t155 => (if t155 = true then ((marquetrylaw14_same.f k t144 (([(⟨#[97, 98]⟩ : ByteArray), (⟨#[97, 98, 99]⟩ : ByteArray)] : List ByteArray))).bind fun t159 => (if t159 = true then (some ((t136.length : Int) == 23)) else (some false))) else (some false))) else (some false))) = some r := H
  have A8 := Aside0.mk A80
  clear A80
  replace H := Option.bind_eq_some_iff.mp H
  obtain ⟨t151, A90, H⟩ := H
  replace H : (if (wrap64 ((wrap64 ((wrap64 (t148 + t149)) + t150)) + t151)) = 0 then ((marquetrylaw14_same.f k t140 (([(⟨#[97, 98]⟩ : ByteArray), (⟨#[99]⟩ : ByteArray)] : List ByteArray))).bind fun t155 => (if t155 = true then ((marquetrylaw14_same.f k t144 (([(⟨#[97, 98]⟩ : ByteArray), (⟨#[97, 98, 99]⟩ : ByteArray)] : List ByteArray))).bind fun t159 => (if t159 = true then (some ((t136.length : Int) == 23)) else (some false))) else (some false))) else (some false)) = some r := H
  have A9 := Aside0.mk A90
  clear A90
  by_cases c10 : (wrap64 ((wrap64 ((wrap64 (t148 + t149)) + t150)) + t151)) = 0
  ·rw [if_pos c10] at H
   have c10b0 : ((wrap64 ((wrap64 ((wrap64 (t148 + t149)) + t150)) + t151)) == 0) = true := beq_iff_eq.mpr c10
   have c10b1 : ((wrap64 ((wrap64 ((wrap64 (t148 + t149)) + t150)) + t151)) != 0) = false := bne_eq_false_iff_eq.mpr c10
   clear c10
   obtain ⟨y152, hy152⟩ : ∃ y_ : List ByteArray, y_ = (([(⟨#[97, 98]⟩ : ByteArray), (⟨#[99]⟩ : ByteArray)] : List ByteArray)) := ⟨_, rfl⟩
   replace H : ((marquetrylaw14_same.f k t140 y152).bind fun t155 => (if t155 = true then ((marquetrylaw14_same.f k t144 (([(⟨#[97, 98]⟩ : ByteArray), (⟨#[97, 98, 99]⟩ : ByteArray)] : List ByteArray))).bind fun t159 => (if t159 = true then (some ((t136.length : Int) == 23)) else (some false))) else (some false))) = some r := by first | (rw [hy152]; with_reducible exact H) | (have H2_ := (Option.bind_some _ _).symm.trans H; rw [hy152]; with_reducible exact H2_) | (have H2_ := (Option.bind_some _ _).symm.trans H; with_reducible exact H2_) | with_reducible exact H | (rw [hy152]; exact H) | exact H
   have Ny152 := Aside0.mk hy152
   clear hy152
   replace H := Option.bind_eq_some_iff.mp H
   obtain ⟨t155, A110, H⟩ := H
   replace H : (if t155 = true then ((marquetrylaw14_same.f k t144 (([(⟨#[97, 98]⟩ : ByteArray), (⟨#[97, 98, 99]⟩ : ByteArray)] : List ByteArray))).bind fun t159 => (if t159 = true then (some ((t136.length : Int) == 23)) else (some false))) else (some false)) = some r := H
   have A11 := Aside0.mk A110
   clear A110
   by_cases c12 : t155 = true
   ·subst c12
    have H1 : ((marquetrylaw14_same.f k t144 (([(⟨#[97, 98]⟩ : ByteArray), (⟨#[97, 98, 99]⟩ : ByteArray)] : List ByteArray))).bind fun t159 => (if t159 = true then (some ((t136.length : Int) == 23)) else (some false))) = some r := by rw [if_pos rfl] at H; exact H
    clear H
    have H := H1
    clear H1
    obtain ⟨y156, hy156⟩ : ∃ y_ : List ByteArray, y_ = (([(⟨#[97, 98]⟩ : ByteArray), (⟨#[97, 98, 99]⟩ : ByteArray)] : List ByteArray)) := ⟨_, rfl⟩
    replace H : ((marquetrylaw14_same.f k t144 y156).bind fun t159 => (if t159 = true then (some ((t136.length : Int) == 23)) else (some false))) = some r := by first | (rw [hy156]; with_reducible exact H) | (have H2_ := (Option.bind_some _ _).symm.trans H; rw [hy156]; with_reducible exact H2_) | (have H2_ := (Option.bind_some _ _).symm.trans H; with_reducible exact H2_) | with_reducible exact H | (rw [hy156]; exact H) | exact H
    have Ny156 := Aside0.mk hy156
    clear hy156
    replace H := Option.bind_eq_some_iff.mp H
    obtain ⟨t159, A130, H⟩ := H
    replace H : (if t159 = true then (some ((t136.length : Int) == 23)) else (some false)) = some r := H
    have A13 := Aside0.mk A130
    clear A130
    by_cases c14 : t159 = true
    ·subst c14
     have H1 : (some ((t136.length : Int) == 23)) = some r := by rw [if_pos rfl] at H; exact H
     clear H
     have H := H1
     clear H1
     obtain rfl := Option.some.inj H
     go_enter Try.func11, Try.ntmps11
     go_wp2_with (first | ((with_reducible refine gate_dst (N := 10) rfl ?_); (try (refine gate_guard (by rfl) ?_; dsimp only)); refine Kd.R_lit Kd.string _ 9 ?hg (N := 10) ?hd (xs := ([(⟨#[97, 98]⟩ : ByteArray), (⟨#[99]⟩ : ByteArray)] : List ByteArray)) (inner := [.string (⟨#[97, 98]⟩ : ByteArray), .string (⟨#[99]⟩ : ByteArray)]) (ok := fun _ => True) (okp := fun _ => True) ?hr ?hp (fun _ hk => hk) trivial (Below.refl _ _) (Nat.le_refl _) (by simp) ?_; (case hd => rfl); (case hg => rfl); (case hr => first | (go_simp; done) | (go_simp; rfl)); (case hp => exact (Reps.one (show Kd.M Kd.string _ _ _ (⟨#[97, 98]⟩ : ByteArray) [.string (⟨#[97, 98]⟩ : ByteArray)] from rfl) (Reps.one (show Kd.M Kd.string _ _ _ (⟨#[99]⟩ : ByteArray) [.string (⟨#[99]⟩ : ByteArray)] from rfl) (Reps.none _ _)))); intro v127 w15 ho16 hb hg_ hnew_; clear hg_ hnew_; (first | rw [← Ny126.out] at ho16 | (simp only [Int.reduceToNat] at ho16; rw [← Ny126.out] at ho16)); have n0_ := Aside0.mk (Kd.R_lower ho16 (below_size (by repeat (first | (with_reducible first | exact HB.out | apply below_alloc | apply pw_below_drewN | apply below_drew1) | exact HB.out)))); have n1_ := Aside0.mk (below_step (by repeat (first | (with_reducible first | exact HB.out | apply below_alloc | apply pw_below_drewN | apply below_drew1) | exact HB.out)) hb); clear HB; have HO128 := n0_; have HB := n1_; clear n0_ n1_; clear hb ho16; obtain ⟨Ao17, co17, eo17⟩ := Kd.R_slice HO128.out; subst eo17) | ((with_reducible refine gate_callee (f := 12) rfl ?_); refine goesL_ (some 11) rfl rfl Try.func12 (by kernel_rfl) rfl #[.slice Ao17 y126.length co17] rfl (by (try simp only [List.map_toArray, List.map_cons, List.map_nil]); first | done | rfl | (simp only [List.length_drop, List.length_take]; rfl)) ?_; (with_reducible refine (strings_Lengths.calls _ _ y126 t129 t130 _ ?side1 ?side2 A1.out).mono ?_); (case side1 => repeat (first | exact (Kd.R_reads' HO128.out).2.2 | (with_reducible refine Kd.C_alloc ?_ _) | (with_reducible refine Kd.C_drewN ?_ _) | (with_reducible refine Kd.C_drew ?_))); (case side2 => exact (Kd.R_reads' HO128.out).2.1); rintro e w18 ⟨v131, rfl, ho0, hb⟩; refine ⟨_, rfl, ?_⟩; have n0_ := Aside0.mk (Kd.R_below (by (with_reducible repeat (first | apply Kd.R_alloc | apply Kd.R_drewN | apply Kd.R_drew)); exact HO128.out) hb); have n1_ := Aside0.mk (Kd.R_lower ho0 (below_size (by repeat (first | (with_reducible first | exact HB.out | apply below_alloc | apply pw_below_drewN | apply below_drew1) | exact HB.out)))); have n2_ := Aside0.mk (below_step (by repeat (first | (with_reducible first | exact HB.out | apply below_alloc | apply pw_below_drewN | apply below_drew1) | exact HB.out)) hb); clear HO128; clear HB; have HO128 := n0_; have HO132 := n1_; have HB := n2_; clear n0_ n1_ n2_; (try clear hb); (try clear hb2); (try clear hk); (try clear hi); (try clear ho0)) | ((with_reducible refine gate_dst (N := 15) rfl ?_); (try (refine gate_guard (by rfl) ?_; dsimp only)); refine Kd.R_lit Kd.string _ 9 ?hg (N := 15) ?hd (xs := ([(⟨#[97, 98]⟩ : ByteArray), (⟨#[97, 98, 99]⟩ : ByteArray)] : List ByteArray)) (inner := [.string (⟨#[97, 98]⟩ : ByteArray), .string (⟨#[97, 98, 99]⟩ : ByteArray)]) (ok := fun _ => True) (okp := fun _ => True) ?hr ?hp (fun _ hk => hk) trivial (Below.refl _ _) (Nat.le_refl _) (by simp) ?_; (case hd => rfl); (case hg => rfl); (case hr => first | (go_simp; done) | (go_simp; rfl)); (case hp => exact (Reps.one (show Kd.M Kd.string _ _ _ (⟨#[97, 98]⟩ : ByteArray) [.string (⟨#[97, 98]⟩ : ByteArray)] from rfl) (Reps.one (show Kd.M Kd.string _ _ _ (⟨#[97, 98, 99]⟩ : ByteArray) [.string (⟨#[97, 98, 99]⟩ : ByteArray)] from rfl) (Reps.none _ _)))); intro v134 w19 ho20 hb hg_ hnew_; clear hg_ hnew_; (first | rw [← Ny133.out] at ho20 | (simp only [Int.reduceToNat] at ho20; rw [← Ny133.out] at ho20)); have n0_ := Aside0.mk (Kd.R_elder' (by (with_reducible repeat (first | apply Kd.R_alloc | apply Kd.R_drewN | apply Kd.R_drew)); exact HO128.out) (Kd.R_base ho20) hb); have n1_ := Aside0.mk (Kd.R_below (by (with_reducible repeat (first | apply Kd.R_alloc | apply Kd.R_drewN | apply Kd.R_drew)); exact HO132.out) hb); have n2_ := Aside0.mk (Kd.R_lower (Kd.R_new' ho20 (Kd.R_lt (by (with_reducible repeat (first | apply Kd.R_alloc | apply Kd.R_drewN | apply Kd.R_drew)); exact HO128.out))) (below_size (by repeat (first | (with_reducible first | exact HB.out | apply below_alloc | apply pw_below_drewN | apply below_drew1) | exact HB.out)))); have n3_ := Aside0.mk (below_step (by repeat (first | (with_reducible first | exact HB.out | apply below_alloc | apply pw_below_drewN | apply below_drew1) | exact HB.out)) hb); clear HO128; clear HO132; clear HB; have HO128 := n0_; have HO132 := n1_; have HO135 := n2_; have HB := n3_; clear n0_ n1_ n2_ n3_; clear hb ho20; obtain ⟨Ao21, co21, eo21⟩ := Kd.R_slice HO135.out; subst eo21) | ((with_reducible refine gate_callee (f := 13) rfl ?_); refine goesL_ (some 16) rfl rfl Try.func13 (by kernel_rfl) rfl #[.slice Ao21 y133.length co21] rfl (by (try simp only [List.map_toArray, List.map_cons, List.map_nil]); first | done | rfl | (simp only [List.length_drop, List.length_take]; rfl)) ?_; (with_reducible refine (strings_Prefixes.calls _ _ y133 t136 t137 _ ?side1 ?side2 A2.out).mono ?_); (case side1 => repeat (first | exact (Kd.R_reads' HO135.out).2.2 | (with_reducible refine Kd.C_alloc ?_ _) | (with_reducible refine Kd.C_drewN ?_ _) | (with_reducible refine Kd.C_drew ?_))); (case side2 => exact (Kd.R_reads' HO135.out).2.1); rintro e w22 ⟨v138, rfl, ho0, hb⟩; refine ⟨_, rfl, ?_⟩; have n0_ := Aside0.mk (Kd.R_below (by (with_reducible repeat (first | apply Kd.R_alloc | apply Kd.R_drewN | apply Kd.R_drew)); exact HO128.out) hb); have n1_ := Aside0.mk (Kd.R_elder' (by (with_reducible repeat (first | apply Kd.R_alloc | apply Kd.R_drewN | apply Kd.R_drew)); exact HO132.out) (Kd.R_base ho0) hb); have n2_ := Aside0.mk (Kd.R_below (by (with_reducible repeat (first | apply Kd.R_alloc | apply Kd.R_drewN | apply Kd.R_drew)); exact HO135.out) hb); have n3_ := Aside0.mk (Kd.R_lower (Kd.R_new' ho0 (Kd.R_lt (by (with_reducible repeat (first | apply Kd.R_alloc | apply Kd.R_drewN | apply Kd.R_drew)); exact HO132.out))) (below_size (by repeat (first | (with_reducible first | exact HB.out | apply below_alloc | apply pw_below_drewN | apply below_drew1) | exact HB.out)))); have n4_ := Aside0.mk (below_step (by repeat (first | (with_reducible first | exact HB.out | apply below_alloc | apply pw_below_drewN | apply below_drew1) | exact HB.out)) hb); clear HO128; clear HO132; clear HO135; clear HB; have HO128 := n0_; have HO132 := n1_; have HO135 := n2_; have HO139 := n3_; have HB := n4_; clear n0_ n1_ n2_ n3_ n4_; (try clear hb); (try clear hb2); (try clear hk); (try clear hi); (try clear ho0); obtain ⟨Ao23, co23, eo23⟩ := Kd.R_slice HO132.out; subst eo23) | ((with_reducible refine gate_callee (f := 19) rfl ?_); refine goesL_ (some 21) rfl rfl Try.func19 (by kernel_rfl) rfl #[.slice Ao23 t129.length co23, .int .i64 2] rfl (by (try simp only [List.map_toArray, List.map_cons, List.map_nil]); first | done | rfl | (simp only [List.length_drop, List.length_take]; rfl)) ?_; (with_reducible refine (strings_ReadLengths.calls _ _ t129 2 t140 t141 _ ?side1 ?side2 A3.out).mono ?_); (case side1 => repeat (first | exact (Kd.R_reads' HO132.out).2.2 | (with_reducible refine Kd.C_alloc ?_ _) | (with_reducible refine Kd.C_drewN ?_ _) | (with_reducible refine Kd.C_drew ?_))); (case side2 => exact (Kd.R_reads' HO132.out).2.1); rintro e w24 ⟨v142, rfl, ho0, hb⟩; refine ⟨_, rfl, ?_⟩; have n0_ := Aside0.mk (Kd.R_elder' (by (with_reducible repeat (first | apply Kd.R_alloc | apply Kd.R_drewN | apply Kd.R_drew)); exact HO128.out) (Kd.R_base ho0) hb); have n1_ := Aside0.mk (Kd.R_below (by (with_reducible repeat (first | apply Kd.R_alloc | apply Kd.R_drewN | apply Kd.R_drew)); exact HO132.out) hb); have n2_ := Aside0.mk (Kd.R_elder' (by (with_reducible repeat (first | apply Kd.R_alloc | apply Kd.R_drewN | apply Kd.R_drew)); exact HO135.out) (Kd.R_base ho0) hb); have n3_ := Aside0.mk (Kd.R_below (by (with_reducible repeat (first | apply Kd.R_alloc | apply Kd.R_drewN | apply Kd.R_drew)); exact HO139.out) hb); have n4_ := Aside0.mk (Kd.R_lower (Kd.R_new' (Kd.R_new' ho0 (Kd.R_lt (by (with_reducible repeat (first | apply Kd.R_alloc | apply Kd.R_drewN | apply Kd.R_drew)); exact HO128.out))) (Kd.R_lt (by (with_reducible repeat (first | apply Kd.R_alloc | apply Kd.R_drewN | apply Kd.R_drew)); exact HO135.out))) (below_size (by repeat (first | (with_reducible first | exact HB.out | apply below_alloc | apply pw_below_drewN | apply below_drew1) | exact HB.out)))); have n5_ := Aside0.mk (below_step (by repeat (first | (with_reducible first | exact HB.out | apply below_alloc | apply pw_below_drewN | apply below_drew1) | exact HB.out)) hb); clear HO128; clear HO132; clear HO135; clear HO139; clear HB; have HO128 := n0_; have HO132 := n1_; have HO135 := n2_; have HO139 := n3_; have HO143 := n4_; have HB := n5_; clear n0_ n1_ n2_ n3_ n4_ n5_; (try clear hb); (try clear hb2); (try clear hk); (try clear hi); (try clear ho0); obtain ⟨Ao25, co25, eo25⟩ := Kd.R_slice HO139.out; subst eo25) | ((with_reducible refine gate_callee (f := 22) rfl ?_); refine goesL_ (some 26) rfl rfl Try.func22 (by kernel_rfl) rfl #[.slice Ao25 t136.length co25, .int .i64 2] rfl (by (try simp only [List.map_toArray, List.map_cons, List.map_nil]); first | done | rfl | (simp only [List.length_drop, List.length_take]; rfl)) ?_; (with_reducible refine (strings_ReadPrefixes.calls _ _ t136 2 t144 t145 _ ?side1 ?side2 A4.out).mono ?_); (case side1 => repeat (first | exact (Kd.R_reads' HO139.out).2.2 | (with_reducible refine Kd.C_alloc ?_ _) | (with_reducible refine Kd.C_drewN ?_ _) | (with_reducible refine Kd.C_drew ?_))); (case side2 => exact (Kd.R_reads' HO139.out).2.1); rintro e w26 ⟨v146, rfl, ho0, hb⟩; refine ⟨_, rfl, ?_⟩; have n0_ := Aside0.mk (Kd.R_elder' (by (with_reducible repeat (first | apply Kd.R_alloc | apply Kd.R_drewN | apply Kd.R_drew)); exact HO128.out) (Kd.R_base ho0) hb); have n1_ := Aside0.mk (Kd.R_below (by (with_reducible repeat (first | apply Kd.R_alloc | apply Kd.R_drewN | apply Kd.R_drew)); exact HO132.out) hb); have n2_ := Aside0.mk (Kd.R_elder' (by (with_reducible repeat (first | apply Kd.R_alloc | apply Kd.R_drewN | apply Kd.R_drew)); exact HO135.out) (Kd.R_base ho0) hb); have n3_ := Aside0.mk (Kd.R_below (by (with_reducible repeat (first | apply Kd.R_alloc | apply Kd.R_drewN | apply Kd.R_drew)); exact HO139.out) hb); have n4_ := Aside0.mk (Kd.R_elder' (by (with_reducible repeat (first | apply Kd.R_alloc | apply Kd.R_drewN | apply Kd.R_drew)); exact HO143.out) (Kd.R_base ho0) hb); have n5_ := Aside0.mk (Kd.R_lower (Kd.R_new' (Kd.R_new' (Kd.R_new' ho0 (Kd.R_lt (by (with_reducible repeat (first | apply Kd.R_alloc | apply Kd.R_drewN | apply Kd.R_drew)); exact HO128.out))) (Kd.R_lt (by (with_reducible repeat (first | apply Kd.R_alloc | apply Kd.R_drewN | apply Kd.R_drew)); exact HO135.out))) (Kd.R_lt (by (with_reducible repeat (first | apply Kd.R_alloc | apply Kd.R_drewN | apply Kd.R_drew)); exact HO143.out))) (below_size (by repeat (first | (with_reducible first | exact HB.out | apply below_alloc | apply pw_below_drewN | apply below_drew1) | exact HB.out)))); have n6_ := Aside0.mk (below_step (by repeat (first | (with_reducible first | exact HB.out | apply below_alloc | apply pw_below_drewN | apply below_drew1) | exact HB.out)) hb); clear HO128; clear HO132; clear HO135; clear HO139; clear HO143; clear HB; have HO128 := n0_; have HO132 := n1_; have HO135 := n2_; have HO139 := n3_; have HO143 := n4_; have HO147 := n5_; have HB := n6_; clear n0_ n1_ n2_ n3_ n4_ n5_ n6_; (try clear hb); (try clear hb2); (try clear hk); (try clear hi); (try clear ho0); have hcv27 := own_string (P := Try.prog) Try.underlying25 Try.underlying5 Try.underlying9 (Kd.own_of_R HO132.out)) | (go_at_call 16; (with_reducible refine (marquetrylaw14_num.calls t130 t148 _ A6.out).mono ?_); rintro e w' ⟨rfl, ⟨nd, rfl⟩⟩) | (go_at_call 16; (with_reducible refine (marquetrylaw14_num.calls t137 t149 _ A7.out).mono ?_); rintro e w' ⟨rfl, ⟨nd, rfl⟩⟩) | (go_at_call 16; (with_reducible refine (marquetrylaw14_num.calls t141 t150 _ A8.out).mono ?_); rintro e w' ⟨rfl, ⟨nd, rfl⟩⟩) | (go_at_call 16; (with_reducible refine (marquetrylaw14_num.calls t145 t151 _ A9.out).mono ?_); rintro e w' ⟨rfl, ⟨nd, rfl⟩⟩) | ((with_reducible refine gate_dst (N := 48) rfl ?_); (try (refine gate_guard (by rfl) ?_; dsimp only)); refine Kd.R_lit Kd.string _ 9 ?hg (N := 48) ?hd (xs := ([(⟨#[97, 98]⟩ : ByteArray), (⟨#[99]⟩ : ByteArray)] : List ByteArray)) (inner := [.string (⟨#[97, 98]⟩ : ByteArray), .string (⟨#[99]⟩ : ByteArray)]) (ok := fun _ => True) (okp := fun _ => True) ?hr ?hp (fun _ hk => hk) trivial (Below.refl _ _) (Nat.le_refl _) (by simp) ?_; (case hd => rfl); (case hg => rfl); (case hr => first | (go_simp; done) | (go_simp; rfl)); (case hp => exact (Reps.one (show Kd.M Kd.string _ _ _ (⟨#[97, 98]⟩ : ByteArray) [.string (⟨#[97, 98]⟩ : ByteArray)] from rfl) (Reps.one (show Kd.M Kd.string _ _ _ (⟨#[99]⟩ : ByteArray) [.string (⟨#[99]⟩ : ByteArray)] from rfl) (Reps.none _ _)))); intro v153 w28 ho29 hb hg_ hnew_; clear hg_ hnew_; (first | rw [← Ny152.out] at ho29 | (simp only [Int.reduceToNat] at ho29; rw [← Ny152.out] at ho29)); have n0_ := Aside0.mk (Kd.R_elder' (by (with_reducible repeat (first | apply Kd.R_alloc | apply Kd.R_drewN | apply Kd.R_drew)); exact HO128.out) (Kd.R_base ho29) hb); have n1_ := Aside0.mk (Kd.R_below (by (with_reducible repeat (first | apply Kd.R_alloc | apply Kd.R_drewN | apply Kd.R_drew)); exact HO132.out) hb); have n2_ := Aside0.mk (Kd.R_elder' (by (with_reducible repeat (first | apply Kd.R_alloc | apply Kd.R_drewN | apply Kd.R_drew)); exact HO135.out) (Kd.R_base ho29) hb); have n3_ := Aside0.mk (Kd.R_below (by (with_reducible repeat (first | apply Kd.R_alloc | apply Kd.R_drewN | apply Kd.R_drew)); exact HO139.out) hb); have n4_ := Aside0.mk (Kd.R_elder' (by (with_reducible repeat (first | apply Kd.R_alloc | apply Kd.R_drewN | apply Kd.R_drew)); exact HO143.out) (Kd.R_base ho29) hb); have n5_ := Aside0.mk (Kd.R_elder' (by (with_reducible repeat (first | apply Kd.R_alloc | apply Kd.R_drewN | apply Kd.R_drew)); exact HO147.out) (Kd.R_base ho29) hb); have n6_ := Aside0.mk (Kd.R_lower (Kd.R_new' (Kd.R_new' (Kd.R_new' (Kd.R_new' ho29 (Kd.R_lt (by (with_reducible repeat (first | apply Kd.R_alloc | apply Kd.R_drewN | apply Kd.R_drew)); exact HO128.out))) (Kd.R_lt (by (with_reducible repeat (first | apply Kd.R_alloc | apply Kd.R_drewN | apply Kd.R_drew)); exact HO135.out))) (Kd.R_lt (by (with_reducible repeat (first | apply Kd.R_alloc | apply Kd.R_drewN | apply Kd.R_drew)); exact HO143.out))) (Kd.R_lt (by (with_reducible repeat (first | apply Kd.R_alloc | apply Kd.R_drewN | apply Kd.R_drew)); exact HO147.out))) (below_size (by repeat (first | (with_reducible first | exact HB.out | apply below_alloc | apply pw_below_drewN | apply below_drew1) | exact HB.out)))); have n7_ := Aside0.mk (below_step (by repeat (first | (with_reducible first | exact HB.out | apply below_alloc | apply pw_below_drewN | apply below_drew1) | exact HB.out)) hb); clear HO128; clear HO132; clear HO135; clear HO139; clear HO143; clear HO147; clear HB; have HO128 := n0_; have HO132 := n1_; have HO135 := n2_; have HO139 := n3_; have HO143 := n4_; have HO147 := n5_; have HO154 := n6_; have HB := n7_; clear n0_ n1_ n2_ n3_ n4_ n5_ n6_ n7_; clear hb ho29; obtain ⟨Ao30, co30, eo30⟩ := Kd.R_slice HO143.out; subst eo30; obtain ⟨Ao31, co31, eo31⟩ := Kd.R_slice HO154.out; subst eo31) | (go_at_call 17; (with_reducible refine (marquetrylaw14_same.calls k _ _ t140 _ _ y152 true _ ?side1 ?side2 ?side3 ?side4 A11.out).mono ?_); (case side1 => repeat (first | exact (Kd.R_reads' HO143.out).2.2 | (with_reducible refine Kd.C_alloc ?_ _) | (with_reducible refine Kd.C_drewN ?_ _) | (with_reducible refine Kd.C_drew ?_))); (case side2 => exact (Kd.R_reads' HO143.out).2.1); (case side3 => repeat (first | exact (Kd.R_reads' HO154.out).2.2 | (with_reducible refine Kd.C_alloc ?_ _) | (with_reducible refine Kd.C_drewN ?_ _) | (with_reducible refine Kd.C_drew ?_))); (case side4 => exact (Kd.R_reads' HO154.out).2.1); rintro e w' ⟨rfl, ⟨nd, rfl⟩⟩) | ((with_reducible refine gate_dst (N := 53) rfl ?_); (try (refine gate_guard (by rfl) ?_; dsimp only)); refine Kd.R_lit Kd.string _ 9 ?hg (N := 53) ?hd (xs := ([(⟨#[97, 98]⟩ : ByteArray), (⟨#[97, 98, 99]⟩ : ByteArray)] : List ByteArray)) (inner := [.string (⟨#[97, 98]⟩ : ByteArray), .string (⟨#[97, 98, 99]⟩ : ByteArray)]) (ok := fun _ => True) (okp := fun _ => True) ?hr ?hp (fun _ hk => hk) trivial (Below.refl _ _) (Nat.le_refl _) (by simp) ?_; (case hd => rfl); (case hg => rfl); (case hr => first | (go_simp; done) | (go_simp; rfl)); (case hp => exact (Reps.one (show Kd.M Kd.string _ _ _ (⟨#[97, 98]⟩ : ByteArray) [.string (⟨#[97, 98]⟩ : ByteArray)] from rfl) (Reps.one (show Kd.M Kd.string _ _ _ (⟨#[97, 98, 99]⟩ : ByteArray) [.string (⟨#[97, 98, 99]⟩ : ByteArray)] from rfl) (Reps.none _ _)))); intro v157 w32 ho33 hb hg_ hnew_; clear hg_ hnew_; (first | rw [← Ny156.out] at ho33 | (simp only [Int.reduceToNat] at ho33; rw [← Ny156.out] at ho33)); have n0_ := Aside0.mk (Kd.R_elder' (by (with_reducible repeat (first | apply Kd.R_alloc | apply Kd.R_drewN | apply Kd.R_drew)); exact HO128.out) (Kd.R_base ho33) hb); have n1_ := Aside0.mk (Kd.R_below (by (with_reducible repeat (first | apply Kd.R_alloc | apply Kd.R_drewN | apply Kd.R_drew)); exact HO132.out) hb); have n2_ := Aside0.mk (Kd.R_elder' (by (with_reducible repeat (first | apply Kd.R_alloc | apply Kd.R_drewN | apply Kd.R_drew)); exact HO135.out) (Kd.R_base ho33) hb); have n3_ := Aside0.mk (Kd.R_below (by (with_reducible repeat (first | apply Kd.R_alloc | apply Kd.R_drewN | apply Kd.R_drew)); exact HO139.out) hb); have n4_ := Aside0.mk (Kd.R_elder' (by (with_reducible repeat (first | apply Kd.R_alloc | apply Kd.R_drewN | apply Kd.R_drew)); exact HO143.out) (Kd.R_base ho33) hb); have n5_ := Aside0.mk (Kd.R_elder' (by (with_reducible repeat (first | apply Kd.R_alloc | apply Kd.R_drewN | apply Kd.R_drew)); exact HO147.out) (Kd.R_base ho33) hb); have n6_ := Aside0.mk (Kd.R_elder' (by (with_reducible repeat (first | apply Kd.R_alloc | apply Kd.R_drewN | apply Kd.R_drew)); exact HO154.out) (Kd.R_base ho33) hb); have n7_ := Aside0.mk (Kd.R_lower (Kd.R_new' (Kd.R_new' (Kd.R_new' (Kd.R_new' (Kd.R_new' ho33 (Kd.R_lt (by (with_reducible repeat (first | apply Kd.R_alloc | apply Kd.R_drewN | apply Kd.R_drew)); exact HO128.out))) (Kd.R_lt (by (with_reducible repeat (first | apply Kd.R_alloc | apply Kd.R_drewN | apply Kd.R_drew)); exact HO135.out))) (Kd.R_lt (by (with_reducible repeat (first | apply Kd.R_alloc | apply Kd.R_drewN | apply Kd.R_drew)); exact HO143.out))) (Kd.R_lt (by (with_reducible repeat (first | apply Kd.R_alloc | apply Kd.R_drewN | apply Kd.R_drew)); exact HO147.out))) (Kd.R_lt (by (with_reducible repeat (first | apply Kd.R_alloc | apply Kd.R_drewN | apply Kd.R_drew)); exact HO154.out))) (below_size (by repeat (first | (with_reducible first | exact HB.out | apply below_alloc | apply pw_below_drewN | apply below_drew1) | exact HB.out)))); have n8_ := Aside0.mk (below_step (by repeat (first | (with_reducible first | exact HB.out | apply below_alloc | apply pw_below_drewN | apply below_drew1) | exact HB.out)) hb); clear HO128; clear HO132; clear HO135; clear HO139; clear HO143; clear HO147; clear HO154; clear HB; have HO128 := n0_; have HO132 := n1_; have HO135 := n2_; have HO139 := n3_; have HO143 := n4_; have HO147 := n5_; have HO154 := n6_; have HO158 := n7_; have HB := n8_; clear n0_ n1_ n2_ n3_ n4_ n5_ n6_ n7_ n8_; clear hb ho33; obtain ⟨Ao34, co34, eo34⟩ := Kd.R_slice HO147.out; subst eo34; obtain ⟨Ao35, co35, eo35⟩ := Kd.R_slice HO158.out; subst eo35) | (go_at_call 17; (with_reducible refine (marquetrylaw14_same.calls k _ _ t144 _ _ y156 true _ ?side1 ?side2 ?side3 ?side4 A13.out).mono ?_); (case side1 => repeat (first | exact (Kd.R_reads' HO147.out).2.2 | (with_reducible refine Kd.C_alloc ?_ _) | (with_reducible refine Kd.C_drewN ?_ _) | (with_reducible refine Kd.C_drew ?_))); (case side2 => exact (Kd.R_reads' HO147.out).2.1); (case side3 => repeat (first | exact (Kd.R_reads' HO158.out).2.2 | (with_reducible refine Kd.C_alloc ?_ _) | (with_reducible refine Kd.C_drewN ?_ _) | (with_reducible refine Kd.C_drew ?_))); (case side4 => exact (Kd.R_reads' HO158.out).2.1); rintro e w' ⟨rfl, ⟨nd, rfl⟩⟩))
     go_ret
     exact ⟨by first | rfl | (simp [errW_none, errW_some] <;> rfl) | (simp [*, errW_none, errW_some] <;> rfl), by repeat (first | (with_reducible first | exact HB.out | apply below_alloc | apply pw_below_drewN | apply below_drew1) | exact HB.out)⟩
    ·replace c14 := Bool.eq_false_iff.mpr c14
     subst c14
     have H1 : (some false) = some r := by rw [if_neg (show ¬ (false = true) by decide)] at H; exact H
     clear H
     have H := H1
     clear H1
     obtain rfl := Option.some.inj H
     go_enter Try.func11, Try.ntmps11
     go_wp2_with (first | ((with_reducible refine gate_dst (N := 10) rfl ?_); (try (refine gate_guard (by rfl) ?_; dsimp only)); refine Kd.R_lit Kd.string _ 9 ?hg (N := 10) ?hd (xs := ([(⟨#[97, 98]⟩ : ByteArray), (⟨#[99]⟩ : ByteArray)] : List ByteArray)) (inner := [.string (⟨#[97, 98]⟩ : ByteArray), .string (⟨#[99]⟩ : ByteArray)]) (ok := fun _ => True) (okp := fun _ => True) ?hr ?hp (fun _ hk => hk) trivial (Below.refl _ _) (Nat.le_refl _) (by simp) ?_; (case hd => rfl); (case hg => rfl); (case hr => first | (go_simp; done) | (go_simp; rfl)); (case hp => exact (Reps.one (show Kd.M Kd.string _ _ _ (⟨#[97, 98]⟩ : ByteArray) [.string (⟨#[97, 98]⟩ : ByteArray)] from rfl) (Reps.one (show Kd.M Kd.string _ _ _ (⟨#[99]⟩ : ByteArray) [.string (⟨#[99]⟩ : ByteArray)] from rfl) (Reps.none _ _)))); intro v127 w36 ho37 hb hg_ hnew_; clear hg_ hnew_; (first | rw [← Ny126.out] at ho37 | (simp only [Int.reduceToNat] at ho37; rw [← Ny126.out] at ho37)); have n0_ := Aside0.mk (Kd.R_lower ho37 (below_size (by repeat (first | (with_reducible first | exact HB.out | apply below_alloc | apply pw_below_drewN | apply below_drew1) | exact HB.out)))); have n1_ := Aside0.mk (below_step (by repeat (first | (with_reducible first | exact HB.out | apply below_alloc | apply pw_below_drewN | apply below_drew1) | exact HB.out)) hb); clear HB; have HO128 := n0_; have HB := n1_; clear n0_ n1_; clear hb ho37; obtain ⟨Ao38, co38, eo38⟩ := Kd.R_slice HO128.out; subst eo38) | ((with_reducible refine gate_callee (f := 12) rfl ?_); refine goesL_ (some 11) rfl rfl Try.func12 (by kernel_rfl) rfl #[.slice Ao38 y126.length co38] rfl (by (try simp only [List.map_toArray, List.map_cons, List.map_nil]); first | done | rfl | (simp only [List.length_drop, List.length_take]; rfl)) ?_; (with_reducible refine (strings_Lengths.calls _ _ y126 t129 t130 _ ?side1 ?side2 A1.out).mono ?_); (case side1 => repeat (first | exact (Kd.R_reads' HO128.out).2.2 | (with_reducible refine Kd.C_alloc ?_ _) | (with_reducible refine Kd.C_drewN ?_ _) | (with_reducible refine Kd.C_drew ?_))); (case side2 => exact (Kd.R_reads' HO128.out).2.1); rintro e w39 ⟨v131, rfl, ho0, hb⟩; refine ⟨_, rfl, ?_⟩; have n0_ := Aside0.mk (Kd.R_below (by (with_reducible repeat (first | apply Kd.R_alloc | apply Kd.R_drewN | apply Kd.R_drew)); exact HO128.out) hb); have n1_ := Aside0.mk (Kd.R_lower ho0 (below_size (by repeat (first | (with_reducible first | exact HB.out | apply below_alloc | apply pw_below_drewN | apply below_drew1) | exact HB.out)))); have n2_ := Aside0.mk (below_step (by repeat (first | (with_reducible first | exact HB.out | apply below_alloc | apply pw_below_drewN | apply below_drew1) | exact HB.out)) hb); clear HO128; clear HB; have HO128 := n0_; have HO132 := n1_; have HB := n2_; clear n0_ n1_ n2_; (try clear hb); (try clear hb2); (try clear hk); (try clear hi); (try clear ho0)) | ((with_reducible refine gate_dst (N := 15) rfl ?_); (try (refine gate_guard (by rfl) ?_; dsimp only)); refine Kd.R_lit Kd.string _ 9 ?hg (N := 15) ?hd (xs := ([(⟨#[97, 98]⟩ : ByteArray), (⟨#[97, 98, 99]⟩ : ByteArray)] : List ByteArray)) (inner := [.string (⟨#[97, 98]⟩ : ByteArray), .string (⟨#[97, 98, 99]⟩ : ByteArray)]) (ok := fun _ => True) (okp := fun _ => True) ?hr ?hp (fun _ hk => hk) trivial (Below.refl _ _) (Nat.le_refl _) (by simp) ?_; (case hd => rfl); (case hg => rfl); (case hr => first | (go_simp; done) | (go_simp; rfl)); (case hp => exact (Reps.one (show Kd.M Kd.string _ _ _ (⟨#[97, 98]⟩ : ByteArray) [.string (⟨#[97, 98]⟩ : ByteArray)] from rfl) (Reps.one (show Kd.M Kd.string _ _ _ (⟨#[97, 98, 99]⟩ : ByteArray) [.string (⟨#[97, 98, 99]⟩ : ByteArray)] from rfl) (Reps.none _ _)))); intro v134 w40 ho41 hb hg_ hnew_; clear hg_ hnew_; (first | rw [← Ny133.out] at ho41 | (simp only [Int.reduceToNat] at ho41; rw [← Ny133.out] at ho41)); have n0_ := Aside0.mk (Kd.R_elder' (by (with_reducible repeat (first | apply Kd.R_alloc | apply Kd.R_drewN | apply Kd.R_drew)); exact HO128.out) (Kd.R_base ho41) hb); have n1_ := Aside0.mk (Kd.R_below (by (with_reducible repeat (first | apply Kd.R_alloc | apply Kd.R_drewN | apply Kd.R_drew)); exact HO132.out) hb); have n2_ := Aside0.mk (Kd.R_lower (Kd.R_new' ho41 (Kd.R_lt (by (with_reducible repeat (first | apply Kd.R_alloc | apply Kd.R_drewN | apply Kd.R_drew)); exact HO128.out))) (below_size (by repeat (first | (with_reducible first | exact HB.out | apply below_alloc | apply pw_below_drewN | apply below_drew1) | exact HB.out)))); have n3_ := Aside0.mk (below_step (by repeat (first | (with_reducible first | exact HB.out | apply below_alloc | apply pw_below_drewN | apply below_drew1) | exact HB.out)) hb); clear HO128; clear HO132; clear HB; have HO128 := n0_; have HO132 := n1_; have HO135 := n2_; have HB := n3_; clear n0_ n1_ n2_ n3_; clear hb ho41; obtain ⟨Ao42, co42, eo42⟩ := Kd.R_slice HO135.out; subst eo42) | ((with_reducible refine gate_callee (f := 13) rfl ?_); refine goesL_ (some 16) rfl rfl Try.func13 (by kernel_rfl) rfl #[.slice Ao42 y133.length co42] rfl (by (try simp only [List.map_toArray, List.map_cons, List.map_nil]); first | done | rfl | (simp only [List.length_drop, List.length_take]; rfl)) ?_; (with_reducible refine (strings_Prefixes.calls _ _ y133 t136 t137 _ ?side1 ?side2 A2.out).mono ?_); (case side1 => repeat (first | exact (Kd.R_reads' HO135.out).2.2 | (with_reducible refine Kd.C_alloc ?_ _) | (with_reducible refine Kd.C_drewN ?_ _) | (with_reducible refine Kd.C_drew ?_))); (case side2 => exact (Kd.R_reads' HO135.out).2.1); rintro e w43 ⟨v138, rfl, ho0, hb⟩; refine ⟨_, rfl, ?_⟩; have n0_ := Aside0.mk (Kd.R_below (by (with_reducible repeat (first | apply Kd.R_alloc | apply Kd.R_drewN | apply Kd.R_drew)); exact HO128.out) hb); have n1_ := Aside0.mk (Kd.R_elder' (by (with_reducible repeat (first | apply Kd.R_alloc | apply Kd.R_drewN | apply Kd.R_drew)); exact HO132.out) (Kd.R_base ho0) hb); have n2_ := Aside0.mk (Kd.R_below (by (with_reducible repeat (first | apply Kd.R_alloc | apply Kd.R_drewN | apply Kd.R_drew)); exact HO135.out) hb); have n3_ := Aside0.mk (Kd.R_lower (Kd.R_new' ho0 (Kd.R_lt (by (with_reducible repeat (first | apply Kd.R_alloc | apply Kd.R_drewN | apply Kd.R_drew)); exact HO132.out))) (below_size (by repeat (first | (with_reducible first | exact HB.out | apply below_alloc | apply pw_below_drewN | apply below_drew1) | exact HB.out)))); have n4_ := Aside0.mk (below_step (by repeat (first | (with_reducible first | exact HB.out | apply below_alloc | apply pw_below_drewN | apply below_drew1) | exact HB.out)) hb); clear HO128; clear HO132; clear HO135; clear HB; have HO128 := n0_; have HO132 := n1_; have HO135 := n2_; have HO139 := n3_; have HB := n4_; clear n0_ n1_ n2_ n3_ n4_; (try clear hb); (try clear hb2); (try clear hk); (try clear hi); (try clear ho0); obtain ⟨Ao44, co44, eo44⟩ := Kd.R_slice HO132.out; subst eo44) | ((with_reducible refine gate_callee (f := 19) rfl ?_); refine goesL_ (some 21) rfl rfl Try.func19 (by kernel_rfl) rfl #[.slice Ao44 t129.length co44, .int .i64 2] rfl (by (try simp only [List.map_toArray, List.map_cons, List.map_nil]); first | done | rfl | (simp only [List.length_drop, List.length_take]; rfl)) ?_; (with_reducible refine (strings_ReadLengths.calls _ _ t129 2 t140 t141 _ ?side1 ?side2 A3.out).mono ?_); (case side1 => repeat (first | exact (Kd.R_reads' HO132.out).2.2 | (with_reducible refine Kd.C_alloc ?_ _) | (with_reducible refine Kd.C_drewN ?_ _) | (with_reducible refine Kd.C_drew ?_))); (case side2 => exact (Kd.R_reads' HO132.out).2.1); rintro e w45 ⟨v142, rfl, ho0, hb⟩; refine ⟨_, rfl, ?_⟩; have n0_ := Aside0.mk (Kd.R_elder' (by (with_reducible repeat (first | apply Kd.R_alloc | apply Kd.R_drewN | apply Kd.R_drew)); exact HO128.out) (Kd.R_base ho0) hb); have n1_ := Aside0.mk (Kd.R_below (by (with_reducible repeat (first | apply Kd.R_alloc | apply Kd.R_drewN | apply Kd.R_drew)); exact HO132.out) hb); have n2_ := Aside0.mk (Kd.R_elder' (by (with_reducible repeat (first | apply Kd.R_alloc | apply Kd.R_drewN | apply Kd.R_drew)); exact HO135.out) (Kd.R_base ho0) hb); have n3_ := Aside0.mk (Kd.R_below (by (with_reducible repeat (first | apply Kd.R_alloc | apply Kd.R_drewN | apply Kd.R_drew)); exact HO139.out) hb); have n4_ := Aside0.mk (Kd.R_lower (Kd.R_new' (Kd.R_new' ho0 (Kd.R_lt (by (with_reducible repeat (first | apply Kd.R_alloc | apply Kd.R_drewN | apply Kd.R_drew)); exact HO128.out))) (Kd.R_lt (by (with_reducible repeat (first | apply Kd.R_alloc | apply Kd.R_drewN | apply Kd.R_drew)); exact HO135.out))) (below_size (by repeat (first | (with_reducible first | exact HB.out | apply below_alloc | apply pw_below_drewN | apply below_drew1) | exact HB.out)))); have n5_ := Aside0.mk (below_step (by repeat (first | (with_reducible first | exact HB.out | apply below_alloc | apply pw_below_drewN | apply below_drew1) | exact HB.out)) hb); clear HO128; clear HO132; clear HO135; clear HO139; clear HB; have HO128 := n0_; have HO132 := n1_; have HO135 := n2_; have HO139 := n3_; have HO143 := n4_; have HB := n5_; clear n0_ n1_ n2_ n3_ n4_ n5_; (try clear hb); (try clear hb2); (try clear hk); (try clear hi); (try clear ho0); obtain ⟨Ao46, co46, eo46⟩ := Kd.R_slice HO139.out; subst eo46) | ((with_reducible refine gate_callee (f := 22) rfl ?_); refine goesL_ (some 26) rfl rfl Try.func22 (by kernel_rfl) rfl #[.slice Ao46 t136.length co46, .int .i64 2] rfl (by (try simp only [List.map_toArray, List.map_cons, List.map_nil]); first | done | rfl | (simp only [List.length_drop, List.length_take]; rfl)) ?_; (with_reducible refine (strings_ReadPrefixes.calls _ _ t136 2 t144 t145 _ ?side1 ?side2 A4.out).mono ?_); (case side1 => repeat (first | exact (Kd.R_reads' HO139.out).2.2 | (with_reducible refine Kd.C_alloc ?_ _) | (with_reducible refine Kd.C_drewN ?_ _) | (with_reducible refine Kd.C_drew ?_))); (case side2 => exact (Kd.R_reads' HO139.out).2.1); rintro e w47 ⟨v146, rfl, ho0, hb⟩; refine ⟨_, rfl, ?_⟩; have n0_ := Aside0.mk (Kd.R_elder' (by (with_reducible repeat (first | apply Kd.R_alloc | apply Kd.R_drewN | apply Kd.R_drew)); exact HO128.out) (Kd.R_base ho0) hb); have n1_ := Aside0.mk (Kd.R_below (by (with_reducible repeat (first | apply Kd.R_alloc | apply Kd.R_drewN | apply Kd.R_drew)); exact HO132.out) hb); have n2_ := Aside0.mk (Kd.R_elder' (by (with_reducible repeat (first | apply Kd.R_alloc | apply Kd.R_drewN | apply Kd.R_drew)); exact HO135.out) (Kd.R_base ho0) hb); have n3_ := Aside0.mk (Kd.R_below (by (with_reducible repeat (first | apply Kd.R_alloc | apply Kd.R_drewN | apply Kd.R_drew)); exact HO139.out) hb); have n4_ := Aside0.mk (Kd.R_elder' (by (with_reducible repeat (first | apply Kd.R_alloc | apply Kd.R_drewN | apply Kd.R_drew)); exact HO143.out) (Kd.R_base ho0) hb); have n5_ := Aside0.mk (Kd.R_lower (Kd.R_new' (Kd.R_new' (Kd.R_new' ho0 (Kd.R_lt (by (with_reducible repeat (first | apply Kd.R_alloc | apply Kd.R_drewN | apply Kd.R_drew)); exact HO128.out))) (Kd.R_lt (by (with_reducible repeat (first | apply Kd.R_alloc | apply Kd.R_drewN | apply Kd.R_drew)); exact HO135.out))) (Kd.R_lt (by (with_reducible repeat (first | apply Kd.R_alloc | apply Kd.R_drewN | apply Kd.R_drew)); exact HO143.out))) (below_size (by repeat (first | (with_reducible first | exact HB.out | apply below_alloc | apply pw_below_drewN | apply below_drew1) | exact HB.out)))); have n6_ := Aside0.mk (below_step (by repeat (first | (with_reducible first | exact HB.out | apply below_alloc | apply pw_below_drewN | apply below_drew1) | exact HB.out)) hb); clear HO128; clear HO132; clear HO135; clear HO139; clear HO143; clear HB; have HO128 := n0_; have HO132 := n1_; have HO135 := n2_; have HO139 := n3_; have HO143 := n4_; have HO147 := n5_; have HB := n6_; clear n0_ n1_ n2_ n3_ n4_ n5_ n6_; (try clear hb); (try clear hb2); (try clear hk); (try clear hi); (try clear ho0); have hcv48 := own_string (P := Try.prog) Try.underlying25 Try.underlying5 Try.underlying9 (Kd.own_of_R HO132.out)) | (go_at_call 16; (with_reducible refine (marquetrylaw14_num.calls t130 t148 _ A6.out).mono ?_); rintro e w' ⟨rfl, ⟨nd, rfl⟩⟩) | (go_at_call 16; (with_reducible refine (marquetrylaw14_num.calls t137 t149 _ A7.out).mono ?_); rintro e w' ⟨rfl, ⟨nd, rfl⟩⟩) | (go_at_call 16; (with_reducible refine (marquetrylaw14_num.calls t141 t150 _ A8.out).mono ?_); rintro e w' ⟨rfl, ⟨nd, rfl⟩⟩) | (go_at_call 16; (with_reducible refine (marquetrylaw14_num.calls t145 t151 _ A9.out).mono ?_); rintro e w' ⟨rfl, ⟨nd, rfl⟩⟩) | ((with_reducible refine gate_dst (N := 48) rfl ?_); (try (refine gate_guard (by rfl) ?_; dsimp only)); refine Kd.R_lit Kd.string _ 9 ?hg (N := 48) ?hd (xs := ([(⟨#[97, 98]⟩ : ByteArray), (⟨#[99]⟩ : ByteArray)] : List ByteArray)) (inner := [.string (⟨#[97, 98]⟩ : ByteArray), .string (⟨#[99]⟩ : ByteArray)]) (ok := fun _ => True) (okp := fun _ => True) ?hr ?hp (fun _ hk => hk) trivial (Below.refl _ _) (Nat.le_refl _) (by simp) ?_; (case hd => rfl); (case hg => rfl); (case hr => first | (go_simp; done) | (go_simp; rfl)); (case hp => exact (Reps.one (show Kd.M Kd.string _ _ _ (⟨#[97, 98]⟩ : ByteArray) [.string (⟨#[97, 98]⟩ : ByteArray)] from rfl) (Reps.one (show Kd.M Kd.string _ _ _ (⟨#[99]⟩ : ByteArray) [.string (⟨#[99]⟩ : ByteArray)] from rfl) (Reps.none _ _)))); intro v153 w49 ho50 hb hg_ hnew_; clear hg_ hnew_; (first | rw [← Ny152.out] at ho50 | (simp only [Int.reduceToNat] at ho50; rw [← Ny152.out] at ho50)); have n0_ := Aside0.mk (Kd.R_elder' (by (with_reducible repeat (first | apply Kd.R_alloc | apply Kd.R_drewN | apply Kd.R_drew)); exact HO128.out) (Kd.R_base ho50) hb); have n1_ := Aside0.mk (Kd.R_below (by (with_reducible repeat (first | apply Kd.R_alloc | apply Kd.R_drewN | apply Kd.R_drew)); exact HO132.out) hb); have n2_ := Aside0.mk (Kd.R_elder' (by (with_reducible repeat (first | apply Kd.R_alloc | apply Kd.R_drewN | apply Kd.R_drew)); exact HO135.out) (Kd.R_base ho50) hb); have n3_ := Aside0.mk (Kd.R_below (by (with_reducible repeat (first | apply Kd.R_alloc | apply Kd.R_drewN | apply Kd.R_drew)); exact HO139.out) hb); have n4_ := Aside0.mk (Kd.R_elder' (by (with_reducible repeat (first | apply Kd.R_alloc | apply Kd.R_drewN | apply Kd.R_drew)); exact HO143.out) (Kd.R_base ho50) hb); have n5_ := Aside0.mk (Kd.R_elder' (by (with_reducible repeat (first | apply Kd.R_alloc | apply Kd.R_drewN | apply Kd.R_drew)); exact HO147.out) (Kd.R_base ho50) hb); have n6_ := Aside0.mk (Kd.R_lower (Kd.R_new' (Kd.R_new' (Kd.R_new' (Kd.R_new' ho50 (Kd.R_lt (by (with_reducible repeat (first | apply Kd.R_alloc | apply Kd.R_drewN | apply Kd.R_drew)); exact HO128.out))) (Kd.R_lt (by (with_reducible repeat (first | apply Kd.R_alloc | apply Kd.R_drewN | apply Kd.R_drew)); exact HO135.out))) (Kd.R_lt (by (with_reducible repeat (first | apply Kd.R_alloc | apply Kd.R_drewN | apply Kd.R_drew)); exact HO143.out))) (Kd.R_lt (by (with_reducible repeat (first | apply Kd.R_alloc | apply Kd.R_drewN | apply Kd.R_drew)); exact HO147.out))) (below_size (by repeat (first | (with_reducible first | exact HB.out | apply below_alloc | apply pw_below_drewN | apply below_drew1) | exact HB.out)))); have n7_ := Aside0.mk (below_step (by repeat (first | (with_reducible first | exact HB.out | apply below_alloc | apply pw_below_drewN | apply below_drew1) | exact HB.out)) hb); clear HO128; clear HO132; clear HO135; clear HO139; clear HO143; clear HO147; clear HB; have HO128 := n0_; have HO132 := n1_; have HO135 := n2_; have HO139 := n3_; have HO143 := n4_; have HO147 := n5_; have HO154 := n6_; have HB := n7_; clear n0_ n1_ n2_ n3_ n4_ n5_ n6_ n7_; clear hb ho50; obtain ⟨Ao51, co51, eo51⟩ := Kd.R_slice HO143.out; subst eo51; obtain ⟨Ao52, co52, eo52⟩ := Kd.R_slice HO154.out; subst eo52) | (go_at_call 17; (with_reducible refine (marquetrylaw14_same.calls k _ _ t140 _ _ y152 true _ ?side1 ?side2 ?side3 ?side4 A11.out).mono ?_); (case side1 => repeat (first | exact (Kd.R_reads' HO143.out).2.2 | (with_reducible refine Kd.C_alloc ?_ _) | (with_reducible refine Kd.C_drewN ?_ _) | (with_reducible refine Kd.C_drew ?_))); (case side2 => exact (Kd.R_reads' HO143.out).2.1); (case side3 => repeat (first | exact (Kd.R_reads' HO154.out).2.2 | (with_reducible refine Kd.C_alloc ?_ _) | (with_reducible refine Kd.C_drewN ?_ _) | (with_reducible refine Kd.C_drew ?_))); (case side4 => exact (Kd.R_reads' HO154.out).2.1); rintro e w' ⟨rfl, ⟨nd, rfl⟩⟩) | ((with_reducible refine gate_dst (N := 53) rfl ?_); (try (refine gate_guard (by rfl) ?_; dsimp only)); refine Kd.R_lit Kd.string _ 9 ?hg (N := 53) ?hd (xs := ([(⟨#[97, 98]⟩ : ByteArray), (⟨#[97, 98, 99]⟩ : ByteArray)] : List ByteArray)) (inner := [.string (⟨#[97, 98]⟩ : ByteArray), .string (⟨#[97, 98, 99]⟩ : ByteArray)]) (ok := fun _ => True) (okp := fun _ => True) ?hr ?hp (fun _ hk => hk) trivial (Below.refl _ _) (Nat.le_refl _) (by simp) ?_; (case hd => rfl); (case hg => rfl); (case hr => first | (go_simp; done) | (go_simp; rfl)); (case hp => exact (Reps.one (show Kd.M Kd.string _ _ _ (⟨#[97, 98]⟩ : ByteArray) [.string (⟨#[97, 98]⟩ : ByteArray)] from rfl) (Reps.one (show Kd.M Kd.string _ _ _ (⟨#[97, 98, 99]⟩ : ByteArray) [.string (⟨#[97, 98, 99]⟩ : ByteArray)] from rfl) (Reps.none _ _)))); intro v157 w53 ho54 hb hg_ hnew_; clear hg_ hnew_; (first | rw [← Ny156.out] at ho54 | (simp only [Int.reduceToNat] at ho54; rw [← Ny156.out] at ho54)); have n0_ := Aside0.mk (Kd.R_elder' (by (with_reducible repeat (first | apply Kd.R_alloc | apply Kd.R_drewN | apply Kd.R_drew)); exact HO128.out) (Kd.R_base ho54) hb); have n1_ := Aside0.mk (Kd.R_below (by (with_reducible repeat (first | apply Kd.R_alloc | apply Kd.R_drewN | apply Kd.R_drew)); exact HO132.out) hb); have n2_ := Aside0.mk (Kd.R_elder' (by (with_reducible repeat (first | apply Kd.R_alloc | apply Kd.R_drewN | apply Kd.R_drew)); exact HO135.out) (Kd.R_base ho54) hb); have n3_ := Aside0.mk (Kd.R_below (by (with_reducible repeat (first | apply Kd.R_alloc | apply Kd.R_drewN | apply Kd.R_drew)); exact HO139.out) hb); have n4_ := Aside0.mk (Kd.R_elder' (by (with_reducible repeat (first | apply Kd.R_alloc | apply Kd.R_drewN | apply Kd.R_drew)); exact HO143.out) (Kd.R_base ho54) hb); have n5_ := Aside0.mk (Kd.R_elder' (by (with_reducible repeat (first | apply Kd.R_alloc | apply Kd.R_drewN | apply Kd.R_drew)); exact HO147.out) (Kd.R_base ho54) hb); have n6_ := Aside0.mk (Kd.R_elder' (by (with_reducible repeat (first | apply Kd.R_alloc | apply Kd.R_drewN | apply Kd.R_drew)); exact HO154.out) (Kd.R_base ho54) hb); have n7_ := Aside0.mk (Kd.R_lower (Kd.R_new' (Kd.R_new' (Kd.R_new' (Kd.R_new' (Kd.R_new' ho54 (Kd.R_lt (by (with_reducible repeat (first | apply Kd.R_alloc | apply Kd.R_drewN | apply Kd.R_drew)); exact HO128.out))) (Kd.R_lt (by (with_reducible repeat (first | apply Kd.R_alloc | apply Kd.R_drewN | apply Kd.R_drew)); exact HO135.out))) (Kd.R_lt (by (with_reducible repeat (first | apply Kd.R_alloc | apply Kd.R_drewN | apply Kd.R_drew)); exact HO143.out))) (Kd.R_lt (by (with_reducible repeat (first | apply Kd.R_alloc | apply Kd.R_drewN | apply Kd.R_drew)); exact HO147.out))) (Kd.R_lt (by (with_reducible repeat (first | apply Kd.R_alloc | apply Kd.R_drewN | apply Kd.R_drew)); exact HO154.out))) (below_size (by repeat (first | (with_reducible first | exact HB.out | apply below_alloc | apply pw_below_drewN | apply below_drew1) | exact HB.out)))); have n8_ := Aside0.mk (below_step (by repeat (first | (with_reducible first | exact HB.out | apply below_alloc | apply pw_below_drewN | apply below_drew1) | exact HB.out)) hb); clear HO128; clear HO132; clear HO135; clear HO139; clear HO143; clear HO147; clear HO154; clear HB; have HO128 := n0_; have HO132 := n1_; have HO135 := n2_; have HO139 := n3_; have HO143 := n4_; have HO147 := n5_; have HO154 := n6_; have HO158 := n7_; have HB := n8_; clear n0_ n1_ n2_ n3_ n4_ n5_ n6_ n7_ n8_; clear hb ho54; obtain ⟨Ao55, co55, eo55⟩ := Kd.R_slice HO147.out; subst eo55; obtain ⟨Ao56, co56, eo56⟩ := Kd.R_slice HO158.out; subst eo56) | (go_at_call 17; (with_reducible refine (marquetrylaw14_same.calls k _ _ t144 _ _ y156 false _ ?side1 ?side2 ?side3 ?side4 A13.out).mono ?_); (case side1 => repeat (first | exact (Kd.R_reads' HO147.out).2.2 | (with_reducible refine Kd.C_alloc ?_ _) | (with_reducible refine Kd.C_drewN ?_ _) | (with_reducible refine Kd.C_drew ?_))); (case side2 => exact (Kd.R_reads' HO147.out).2.1); (case side3 => repeat (first | exact (Kd.R_reads' HO158.out).2.2 | (with_reducible refine Kd.C_alloc ?_ _) | (with_reducible refine Kd.C_drewN ?_ _) | (with_reducible refine Kd.C_drew ?_))); (case side4 => exact (Kd.R_reads' HO158.out).2.1); rintro e w' ⟨rfl, ⟨nd, rfl⟩⟩))
     go_ret
     exact ⟨by first | rfl | (simp [errW_none, errW_some] <;> rfl) | (simp [*, errW_none, errW_some] <;> rfl), by repeat (first | (with_reducible first | exact HB.out | apply below_alloc | apply pw_below_drewN | apply below_drew1) | exact HB.out)⟩
   ·replace c12 := Bool.eq_false_iff.mpr c12
    subst c12
    have H1 : (some false) = some r := by rw [if_neg (show ¬ (false = true) by decide)] at H; exact H
    clear H
    have H := H1
    clear H1
    obtain rfl := Option.some.inj H
    go_enter Try.func11, Try.ntmps11
    go_wp2_with (first | ((with_reducible refine gate_dst (N := 10) rfl ?_); (try (refine gate_guard (by rfl) ?_; dsimp only)); refine Kd.R_lit Kd.string _ 9 ?hg (N := 10) ?hd (xs := ([(⟨#[97, 98]⟩ : ByteArray), (⟨#[99]⟩ : ByteArray)] : List ByteArray)) (inner := [.string (⟨#[97, 98]⟩ : ByteArray), .string (⟨#[99]⟩ : ByteArray)]) (ok := fun _ => True) (okp := fun _ => True) ?hr ?hp (fun _ hk => hk) trivial (Below.refl _ _) (Nat.le_refl _) (by simp) ?_; (case hd => rfl); (case hg => rfl); (case hr => first | (go_simp; done) | (go_simp; rfl)); (case hp => exact (Reps.one (show Kd.M Kd.string _ _ _ (⟨#[97, 98]⟩ : ByteArray) [.string (⟨#[97, 98]⟩ : ByteArray)] from rfl) (Reps.one (show Kd.M Kd.string _ _ _ (⟨#[99]⟩ : ByteArray) [.string (⟨#[99]⟩ : ByteArray)] from rfl) (Reps.none _ _)))); intro v127 w57 ho58 hb hg_ hnew_; clear hg_ hnew_; (first | rw [← Ny126.out] at ho58 | (simp only [Int.reduceToNat] at ho58; rw [← Ny126.out] at ho58)); have n0_ := Aside0.mk (Kd.R_lower ho58 (below_size (by repeat (first | (with_reducible first | exact HB.out | apply below_alloc | apply pw_below_drewN | apply below_drew1) | exact HB.out)))); have n1_ := Aside0.mk (below_step (by repeat (first | (with_reducible first | exact HB.out | apply below_alloc | apply pw_below_drewN | apply below_drew1) | exact HB.out)) hb); clear HB; have HO128 := n0_; have HB := n1_; clear n0_ n1_; clear hb ho58; obtain ⟨Ao59, co59, eo59⟩ := Kd.R_slice HO128.out; subst eo59) | ((with_reducible refine gate_callee (f := 12) rfl ?_); refine goesL_ (some 11) rfl rfl Try.func12 (by kernel_rfl) rfl #[.slice Ao59 y126.length co59] rfl (by (try simp only [List.map_toArray, List.map_cons, List.map_nil]); first | done | rfl | (simp only [List.length_drop, List.length_take]; rfl)) ?_; (with_reducible refine (strings_Lengths.calls _ _ y126 t129 t130 _ ?side1 ?side2 A1.out).mono ?_); (case side1 => repeat (first | exact (Kd.R_reads' HO128.out).2.2 | (with_reducible refine Kd.C_alloc ?_ _) | (with_reducible refine Kd.C_drewN ?_ _) | (with_reducible refine Kd.C_drew ?_))); (case side2 => exact (Kd.R_reads' HO128.out).2.1); rintro e w60 ⟨v131, rfl, ho0, hb⟩; refine ⟨_, rfl, ?_⟩; have n0_ := Aside0.mk (Kd.R_below (by (with_reducible repeat (first | apply Kd.R_alloc | apply Kd.R_drewN | apply Kd.R_drew)); exact HO128.out) hb); have n1_ := Aside0.mk (Kd.R_lower ho0 (below_size (by repeat (first | (with_reducible first | exact HB.out | apply below_alloc | apply pw_below_drewN | apply below_drew1) | exact HB.out)))); have n2_ := Aside0.mk (below_step (by repeat (first | (with_reducible first | exact HB.out | apply below_alloc | apply pw_below_drewN | apply below_drew1) | exact HB.out)) hb); clear HO128; clear HB; have HO128 := n0_; have HO132 := n1_; have HB := n2_; clear n0_ n1_ n2_; (try clear hb); (try clear hb2); (try clear hk); (try clear hi); (try clear ho0)) | ((with_reducible refine gate_dst (N := 15) rfl ?_); (try (refine gate_guard (by rfl) ?_; dsimp only)); refine Kd.R_lit Kd.string _ 9 ?hg (N := 15) ?hd (xs := ([(⟨#[97, 98]⟩ : ByteArray), (⟨#[97, 98, 99]⟩ : ByteArray)] : List ByteArray)) (inner := [.string (⟨#[97, 98]⟩ : ByteArray), .string (⟨#[97, 98, 99]⟩ : ByteArray)]) (ok := fun _ => True) (okp := fun _ => True) ?hr ?hp (fun _ hk => hk) trivial (Below.refl _ _) (Nat.le_refl _) (by simp) ?_; (case hd => rfl); (case hg => rfl); (case hr => first | (go_simp; done) | (go_simp; rfl)); (case hp => exact (Reps.one (show Kd.M Kd.string _ _ _ (⟨#[97, 98]⟩ : ByteArray) [.string (⟨#[97, 98]⟩ : ByteArray)] from rfl) (Reps.one (show Kd.M Kd.string _ _ _ (⟨#[97, 98, 99]⟩ : ByteArray) [.string (⟨#[97, 98, 99]⟩ : ByteArray)] from rfl) (Reps.none _ _)))); intro v134 w61 ho62 hb hg_ hnew_; clear hg_ hnew_; (first | rw [← Ny133.out] at ho62 | (simp only [Int.reduceToNat] at ho62; rw [← Ny133.out] at ho62)); have n0_ := Aside0.mk (Kd.R_elder' (by (with_reducible repeat (first | apply Kd.R_alloc | apply Kd.R_drewN | apply Kd.R_drew)); exact HO128.out) (Kd.R_base ho62) hb); have n1_ := Aside0.mk (Kd.R_below (by (with_reducible repeat (first | apply Kd.R_alloc | apply Kd.R_drewN | apply Kd.R_drew)); exact HO132.out) hb); have n2_ := Aside0.mk (Kd.R_lower (Kd.R_new' ho62 (Kd.R_lt (by (with_reducible repeat (first | apply Kd.R_alloc | apply Kd.R_drewN | apply Kd.R_drew)); exact HO128.out))) (below_size (by repeat (first | (with_reducible first | exact HB.out | apply below_alloc | apply pw_below_drewN | apply below_drew1) | exact HB.out)))); have n3_ := Aside0.mk (below_step (by repeat (first | (with_reducible first | exact HB.out | apply below_alloc | apply pw_below_drewN | apply below_drew1) | exact HB.out)) hb); clear HO128; clear HO132; clear HB; have HO128 := n0_; have HO132 := n1_; have HO135 := n2_; have HB := n3_; clear n0_ n1_ n2_ n3_; clear hb ho62; obtain ⟨Ao63, co63, eo63⟩ := Kd.R_slice HO135.out; subst eo63) | ((with_reducible refine gate_callee (f := 13) rfl ?_); refine goesL_ (some 16) rfl rfl Try.func13 (by kernel_rfl) rfl #[.slice Ao63 y133.length co63] rfl (by (try simp only [List.map_toArray, List.map_cons, List.map_nil]); first | done | rfl | (simp only [List.length_drop, List.length_take]; rfl)) ?_; (with_reducible refine (strings_Prefixes.calls _ _ y133 t136 t137 _ ?side1 ?side2 A2.out).mono ?_); (case side1 => repeat (first | exact (Kd.R_reads' HO135.out).2.2 | (with_reducible refine Kd.C_alloc ?_ _) | (with_reducible refine Kd.C_drewN ?_ _) | (with_reducible refine Kd.C_drew ?_))); (case side2 => exact (Kd.R_reads' HO135.out).2.1); rintro e w64 ⟨v138, rfl, ho0, hb⟩; refine ⟨_, rfl, ?_⟩; have n0_ := Aside0.mk (Kd.R_below (by (with_reducible repeat (first | apply Kd.R_alloc | apply Kd.R_drewN | apply Kd.R_drew)); exact HO128.out) hb); have n1_ := Aside0.mk (Kd.R_elder' (by (with_reducible repeat (first | apply Kd.R_alloc | apply Kd.R_drewN | apply Kd.R_drew)); exact HO132.out) (Kd.R_base ho0) hb); have n2_ := Aside0.mk (Kd.R_below (by (with_reducible repeat (first | apply Kd.R_alloc | apply Kd.R_drewN | apply Kd.R_drew)); exact HO135.out) hb); have n3_ := Aside0.mk (Kd.R_lower (Kd.R_new' ho0 (Kd.R_lt (by (with_reducible repeat (first | apply Kd.R_alloc | apply Kd.R_drewN | apply Kd.R_drew)); exact HO132.out))) (below_size (by repeat (first | (with_reducible first | exact HB.out | apply below_alloc | apply pw_below_drewN | apply below_drew1) | exact HB.out)))); have n4_ := Aside0.mk (below_step (by repeat (first | (with_reducible first | exact HB.out | apply below_alloc | apply pw_below_drewN | apply below_drew1) | exact HB.out)) hb); clear HO128; clear HO132; clear HO135; clear HB; have HO128 := n0_; have HO132 := n1_; have HO135 := n2_; have HO139 := n3_; have HB := n4_; clear n0_ n1_ n2_ n3_ n4_; (try clear hb); (try clear hb2); (try clear hk); (try clear hi); (try clear ho0); obtain ⟨Ao65, co65, eo65⟩ := Kd.R_slice HO132.out; subst eo65) | ((with_reducible refine gate_callee (f := 19) rfl ?_); refine goesL_ (some 21) rfl rfl Try.func19 (by kernel_rfl) rfl #[.slice Ao65 t129.length co65, .int .i64 2] rfl (by (try simp only [List.map_toArray, List.map_cons, List.map_nil]); first | done | rfl | (simp only [List.length_drop, List.length_take]; rfl)) ?_; (with_reducible refine (strings_ReadLengths.calls _ _ t129 2 t140 t141 _ ?side1 ?side2 A3.out).mono ?_); (case side1 => repeat (first | exact (Kd.R_reads' HO132.out).2.2 | (with_reducible refine Kd.C_alloc ?_ _) | (with_reducible refine Kd.C_drewN ?_ _) | (with_reducible refine Kd.C_drew ?_))); (case side2 => exact (Kd.R_reads' HO132.out).2.1); rintro e w66 ⟨v142, rfl, ho0, hb⟩; refine ⟨_, rfl, ?_⟩; have n0_ := Aside0.mk (Kd.R_elder' (by (with_reducible repeat (first | apply Kd.R_alloc | apply Kd.R_drewN | apply Kd.R_drew)); exact HO128.out) (Kd.R_base ho0) hb); have n1_ := Aside0.mk (Kd.R_below (by (with_reducible repeat (first | apply Kd.R_alloc | apply Kd.R_drewN | apply Kd.R_drew)); exact HO132.out) hb); have n2_ := Aside0.mk (Kd.R_elder' (by (with_reducible repeat (first | apply Kd.R_alloc | apply Kd.R_drewN | apply Kd.R_drew)); exact HO135.out) (Kd.R_base ho0) hb); have n3_ := Aside0.mk (Kd.R_below (by (with_reducible repeat (first | apply Kd.R_alloc | apply Kd.R_drewN | apply Kd.R_drew)); exact HO139.out) hb); have n4_ := Aside0.mk (Kd.R_lower (Kd.R_new' (Kd.R_new' ho0 (Kd.R_lt (by (with_reducible repeat (first | apply Kd.R_alloc | apply Kd.R_drewN | apply Kd.R_drew)); exact HO128.out))) (Kd.R_lt (by (with_reducible repeat (first | apply Kd.R_alloc | apply Kd.R_drewN | apply Kd.R_drew)); exact HO135.out))) (below_size (by repeat (first | (with_reducible first | exact HB.out | apply below_alloc | apply pw_below_drewN | apply below_drew1) | exact HB.out)))); have n5_ := Aside0.mk (below_step (by repeat (first | (with_reducible first | exact HB.out | apply below_alloc | apply pw_below_drewN | apply below_drew1) | exact HB.out)) hb); clear HO128; clear HO132; clear HO135; clear HO139; clear HB; have HO128 := n0_; have HO132 := n1_; have HO135 := n2_; have HO139 := n3_; have HO143 := n4_; have HB := n5_; clear n0_ n1_ n2_ n3_ n4_ n5_; (try clear hb); (try clear hb2); (try clear hk); (try clear hi); (try clear ho0); obtain ⟨Ao67, co67, eo67⟩ := Kd.R_slice HO139.out; subst eo67) | ((with_reducible refine gate_callee (f := 22) rfl ?_); refine goesL_ (some 26) rfl rfl Try.func22 (by kernel_rfl) rfl #[.slice Ao67 t136.length co67, .int .i64 2] rfl (by (try simp only [List.map_toArray, List.map_cons, List.map_nil]); first | done | rfl | (simp only [List.length_drop, List.length_take]; rfl)) ?_; (with_reducible refine (strings_ReadPrefixes.calls _ _ t136 2 t144 t145 _ ?side1 ?side2 A4.out).mono ?_); (case side1 => repeat (first | exact (Kd.R_reads' HO139.out).2.2 | (with_reducible refine Kd.C_alloc ?_ _) | (with_reducible refine Kd.C_drewN ?_ _) | (with_reducible refine Kd.C_drew ?_))); (case side2 => exact (Kd.R_reads' HO139.out).2.1); rintro e w68 ⟨v146, rfl, ho0, hb⟩; refine ⟨_, rfl, ?_⟩; have n0_ := Aside0.mk (Kd.R_elder' (by (with_reducible repeat (first | apply Kd.R_alloc | apply Kd.R_drewN | apply Kd.R_drew)); exact HO128.out) (Kd.R_base ho0) hb); have n1_ := Aside0.mk (Kd.R_below (by (with_reducible repeat (first | apply Kd.R_alloc | apply Kd.R_drewN | apply Kd.R_drew)); exact HO132.out) hb); have n2_ := Aside0.mk (Kd.R_elder' (by (with_reducible repeat (first | apply Kd.R_alloc | apply Kd.R_drewN | apply Kd.R_drew)); exact HO135.out) (Kd.R_base ho0) hb); have n3_ := Aside0.mk (Kd.R_below (by (with_reducible repeat (first | apply Kd.R_alloc | apply Kd.R_drewN | apply Kd.R_drew)); exact HO139.out) hb); have n4_ := Aside0.mk (Kd.R_elder' (by (with_reducible repeat (first | apply Kd.R_alloc | apply Kd.R_drewN | apply Kd.R_drew)); exact HO143.out) (Kd.R_base ho0) hb); have n5_ := Aside0.mk (Kd.R_lower (Kd.R_new' (Kd.R_new' (Kd.R_new' ho0 (Kd.R_lt (by (with_reducible repeat (first | apply Kd.R_alloc | apply Kd.R_drewN | apply Kd.R_drew)); exact HO128.out))) (Kd.R_lt (by (with_reducible repeat (first | apply Kd.R_alloc | apply Kd.R_drewN | apply Kd.R_drew)); exact HO135.out))) (Kd.R_lt (by (with_reducible repeat (first | apply Kd.R_alloc | apply Kd.R_drewN | apply Kd.R_drew)); exact HO143.out))) (below_size (by repeat (first | (with_reducible first | exact HB.out | apply below_alloc | apply pw_below_drewN | apply below_drew1) | exact HB.out)))); have n6_ := Aside0.mk (below_step (by repeat (first | (with_reducible first | exact HB.out | apply below_alloc | apply pw_below_drewN | apply below_drew1) | exact HB.out)) hb); clear HO128; clear HO132; clear HO135; clear HO139; clear HO143; clear HB; have HO128 := n0_; have HO132 := n1_; have HO135 := n2_; have HO139 := n3_; have HO143 := n4_; have HO147 := n5_; have HB := n6_; clear n0_ n1_ n2_ n3_ n4_ n5_ n6_; (try clear hb); (try clear hb2); (try clear hk); (try clear hi); (try clear ho0); have hcv69 := own_string (P := Try.prog) Try.underlying25 Try.underlying5 Try.underlying9 (Kd.own_of_R HO132.out)) | (go_at_call 16; (with_reducible refine (marquetrylaw14_num.calls t130 t148 _ A6.out).mono ?_); rintro e w' ⟨rfl, ⟨nd, rfl⟩⟩) | (go_at_call 16; (with_reducible refine (marquetrylaw14_num.calls t137 t149 _ A7.out).mono ?_); rintro e w' ⟨rfl, ⟨nd, rfl⟩⟩) | (go_at_call 16; (with_reducible refine (marquetrylaw14_num.calls t141 t150 _ A8.out).mono ?_); rintro e w' ⟨rfl, ⟨nd, rfl⟩⟩) | (go_at_call 16; (with_reducible refine (marquetrylaw14_num.calls t145 t151 _ A9.out).mono ?_); rintro e w' ⟨rfl, ⟨nd, rfl⟩⟩) | ((with_reducible refine gate_dst (N := 48) rfl ?_); (try (refine gate_guard (by rfl) ?_; dsimp only)); refine Kd.R_lit Kd.string _ 9 ?hg (N := 48) ?hd (xs := ([(⟨#[97, 98]⟩ : ByteArray), (⟨#[99]⟩ : ByteArray)] : List ByteArray)) (inner := [.string (⟨#[97, 98]⟩ : ByteArray), .string (⟨#[99]⟩ : ByteArray)]) (ok := fun _ => True) (okp := fun _ => True) ?hr ?hp (fun _ hk => hk) trivial (Below.refl _ _) (Nat.le_refl _) (by simp) ?_; (case hd => rfl); (case hg => rfl); (case hr => first | (go_simp; done) | (go_simp; rfl)); (case hp => exact (Reps.one (show Kd.M Kd.string _ _ _ (⟨#[97, 98]⟩ : ByteArray) [.string (⟨#[97, 98]⟩ : ByteArray)] from rfl) (Reps.one (show Kd.M Kd.string _ _ _ (⟨#[99]⟩ : ByteArray) [.string (⟨#[99]⟩ : ByteArray)] from rfl) (Reps.none _ _)))); intro v153 w70 ho71 hb hg_ hnew_; clear hg_ hnew_; (first | rw [← Ny152.out] at ho71 | (simp only [Int.reduceToNat] at ho71; rw [← Ny152.out] at ho71)); have n0_ := Aside0.mk (Kd.R_elder' (by (with_reducible repeat (first | apply Kd.R_alloc | apply Kd.R_drewN | apply Kd.R_drew)); exact HO128.out) (Kd.R_base ho71) hb); have n1_ := Aside0.mk (Kd.R_below (by (with_reducible repeat (first | apply Kd.R_alloc | apply Kd.R_drewN | apply Kd.R_drew)); exact HO132.out) hb); have n2_ := Aside0.mk (Kd.R_elder' (by (with_reducible repeat (first | apply Kd.R_alloc | apply Kd.R_drewN | apply Kd.R_drew)); exact HO135.out) (Kd.R_base ho71) hb); have n3_ := Aside0.mk (Kd.R_below (by (with_reducible repeat (first | apply Kd.R_alloc | apply Kd.R_drewN | apply Kd.R_drew)); exact HO139.out) hb); have n4_ := Aside0.mk (Kd.R_elder' (by (with_reducible repeat (first | apply Kd.R_alloc | apply Kd.R_drewN | apply Kd.R_drew)); exact HO143.out) (Kd.R_base ho71) hb); have n5_ := Aside0.mk (Kd.R_elder' (by (with_reducible repeat (first | apply Kd.R_alloc | apply Kd.R_drewN | apply Kd.R_drew)); exact HO147.out) (Kd.R_base ho71) hb); have n6_ := Aside0.mk (Kd.R_lower (Kd.R_new' (Kd.R_new' (Kd.R_new' (Kd.R_new' ho71 (Kd.R_lt (by (with_reducible repeat (first | apply Kd.R_alloc | apply Kd.R_drewN | apply Kd.R_drew)); exact HO128.out))) (Kd.R_lt (by (with_reducible repeat (first | apply Kd.R_alloc | apply Kd.R_drewN | apply Kd.R_drew)); exact HO135.out))) (Kd.R_lt (by (with_reducible repeat (first | apply Kd.R_alloc | apply Kd.R_drewN | apply Kd.R_drew)); exact HO143.out))) (Kd.R_lt (by (with_reducible repeat (first | apply Kd.R_alloc | apply Kd.R_drewN | apply Kd.R_drew)); exact HO147.out))) (below_size (by repeat (first | (with_reducible first | exact HB.out | apply below_alloc | apply pw_below_drewN | apply below_drew1) | exact HB.out)))); have n7_ := Aside0.mk (below_step (by repeat (first | (with_reducible first | exact HB.out | apply below_alloc | apply pw_below_drewN | apply below_drew1) | exact HB.out)) hb); clear HO128; clear HO132; clear HO135; clear HO139; clear HO143; clear HO147; clear HB; have HO128 := n0_; have HO132 := n1_; have HO135 := n2_; have HO139 := n3_; have HO143 := n4_; have HO147 := n5_; have HO154 := n6_; have HB := n7_; clear n0_ n1_ n2_ n3_ n4_ n5_ n6_ n7_; clear hb ho71; obtain ⟨Ao72, co72, eo72⟩ := Kd.R_slice HO143.out; subst eo72; obtain ⟨Ao73, co73, eo73⟩ := Kd.R_slice HO154.out; subst eo73) | (go_at_call 17; (with_reducible refine (marquetrylaw14_same.calls k _ _ t140 _ _ y152 false _ ?side1 ?side2 ?side3 ?side4 A11.out).mono ?_); (case side1 => repeat (first | exact (Kd.R_reads' HO143.out).2.2 | (with_reducible refine Kd.C_alloc ?_ _) | (with_reducible refine Kd.C_drewN ?_ _) | (with_reducible refine Kd.C_drew ?_))); (case side2 => exact (Kd.R_reads' HO143.out).2.1); (case side3 => repeat (first | exact (Kd.R_reads' HO154.out).2.2 | (with_reducible refine Kd.C_alloc ?_ _) | (with_reducible refine Kd.C_drewN ?_ _) | (with_reducible refine Kd.C_drew ?_))); (case side4 => exact (Kd.R_reads' HO154.out).2.1); rintro e w' ⟨rfl, ⟨nd, rfl⟩⟩))
    go_ret
    exact ⟨by first | rfl | (simp [errW_none, errW_some] <;> rfl) | (simp [*, errW_none, errW_some] <;> rfl), by repeat (first | (with_reducible first | exact HB.out | apply below_alloc | apply pw_below_drewN | apply below_drew1) | exact HB.out)⟩
  ·rw [if_neg c10] at H
   have c10b0 : ((wrap64 ((wrap64 ((wrap64 (t148 + t149)) + t150)) + t151)) == 0) = false := beq_eq_false_iff_ne.mpr c10
   have c10b1 : ((wrap64 ((wrap64 ((wrap64 (t148 + t149)) + t150)) + t151)) != 0) = true := bne_iff_ne.mpr c10
   obtain rfl := Option.some.inj H
   go_enter Try.func11, Try.ntmps11
   go_wp2_with (first | ((with_reducible refine gate_dst (N := 10) rfl ?_); (try (refine gate_guard (by rfl) ?_; dsimp only)); refine Kd.R_lit Kd.string _ 9 ?hg (N := 10) ?hd (xs := ([(⟨#[97, 98]⟩ : ByteArray), (⟨#[99]⟩ : ByteArray)] : List ByteArray)) (inner := [.string (⟨#[97, 98]⟩ : ByteArray), .string (⟨#[99]⟩ : ByteArray)]) (ok := fun _ => True) (okp := fun _ => True) ?hr ?hp (fun _ hk => hk) trivial (Below.refl _ _) (Nat.le_refl _) (by simp) ?_; (case hd => rfl); (case hg => rfl); (case hr => first | (go_simp; done) | (go_simp; rfl)); (case hp => exact (Reps.one (show Kd.M Kd.string _ _ _ (⟨#[97, 98]⟩ : ByteArray) [.string (⟨#[97, 98]⟩ : ByteArray)] from rfl) (Reps.one (show Kd.M Kd.string _ _ _ (⟨#[99]⟩ : ByteArray) [.string (⟨#[99]⟩ : ByteArray)] from rfl) (Reps.none _ _)))); intro v127 w74 ho75 hb hg_ hnew_; clear hg_ hnew_; (first | rw [← Ny126.out] at ho75 | (simp only [Int.reduceToNat] at ho75; rw [← Ny126.out] at ho75)); have n0_ := Aside0.mk (Kd.R_lower ho75 (below_size (by repeat (first | (with_reducible first | exact HB.out | apply below_alloc | apply pw_below_drewN | apply below_drew1) | exact HB.out)))); have n1_ := Aside0.mk (below_step (by repeat (first | (with_reducible first | exact HB.out | apply below_alloc | apply pw_below_drewN | apply below_drew1) | exact HB.out)) hb); clear HB; have HO128 := n0_; have HB := n1_; clear n0_ n1_; clear hb ho75; obtain ⟨Ao76, co76, eo76⟩ := Kd.R_slice HO128.out; subst eo76) | ((with_reducible refine gate_callee (f := 12) rfl ?_); refine goesL_ (some 11) rfl rfl Try.func12 (by kernel_rfl) rfl #[.slice Ao76 y126.length co76] rfl (by (try simp only [List.map_toArray, List.map_cons, List.map_nil]); first | done | rfl | (simp only [List.length_drop, List.length_take]; rfl)) ?_; (with_reducible refine (strings_Lengths.calls _ _ y126 t129 t130 _ ?side1 ?side2 A1.out).mono ?_); (case side1 => repeat (first | exact (Kd.R_reads' HO128.out).2.2 | (with_reducible refine Kd.C_alloc ?_ _) | (with_reducible refine Kd.C_drewN ?_ _) | (with_reducible refine Kd.C_drew ?_))); (case side2 => exact (Kd.R_reads' HO128.out).2.1); rintro e w77 ⟨v131, rfl, ho0, hb⟩; refine ⟨_, rfl, ?_⟩; have n0_ := Aside0.mk (Kd.R_below (by (with_reducible repeat (first | apply Kd.R_alloc | apply Kd.R_drewN | apply Kd.R_drew)); exact HO128.out) hb); have n1_ := Aside0.mk (Kd.R_lower ho0 (below_size (by repeat (first | (with_reducible first | exact HB.out | apply below_alloc | apply pw_below_drewN | apply below_drew1) | exact HB.out)))); have n2_ := Aside0.mk (below_step (by repeat (first | (with_reducible first | exact HB.out | apply below_alloc | apply pw_below_drewN | apply below_drew1) | exact HB.out)) hb); clear HO128; clear HB; have HO128 := n0_; have HO132 := n1_; have HB := n2_; clear n0_ n1_ n2_; (try clear hb); (try clear hb2); (try clear hk); (try clear hi); (try clear ho0)) | ((with_reducible refine gate_dst (N := 15) rfl ?_); (try (refine gate_guard (by rfl) ?_; dsimp only)); refine Kd.R_lit Kd.string _ 9 ?hg (N := 15) ?hd (xs := ([(⟨#[97, 98]⟩ : ByteArray), (⟨#[97, 98, 99]⟩ : ByteArray)] : List ByteArray)) (inner := [.string (⟨#[97, 98]⟩ : ByteArray), .string (⟨#[97, 98, 99]⟩ : ByteArray)]) (ok := fun _ => True) (okp := fun _ => True) ?hr ?hp (fun _ hk => hk) trivial (Below.refl _ _) (Nat.le_refl _) (by simp) ?_; (case hd => rfl); (case hg => rfl); (case hr => first | (go_simp; done) | (go_simp; rfl)); (case hp => exact (Reps.one (show Kd.M Kd.string _ _ _ (⟨#[97, 98]⟩ : ByteArray) [.string (⟨#[97, 98]⟩ : ByteArray)] from rfl) (Reps.one (show Kd.M Kd.string _ _ _ (⟨#[97, 98, 99]⟩ : ByteArray) [.string (⟨#[97, 98, 99]⟩ : ByteArray)] from rfl) (Reps.none _ _)))); intro v134 w78 ho79 hb hg_ hnew_; clear hg_ hnew_; (first | rw [← Ny133.out] at ho79 | (simp only [Int.reduceToNat] at ho79; rw [← Ny133.out] at ho79)); have n0_ := Aside0.mk (Kd.R_elder' (by (with_reducible repeat (first | apply Kd.R_alloc | apply Kd.R_drewN | apply Kd.R_drew)); exact HO128.out) (Kd.R_base ho79) hb); have n1_ := Aside0.mk (Kd.R_below (by (with_reducible repeat (first | apply Kd.R_alloc | apply Kd.R_drewN | apply Kd.R_drew)); exact HO132.out) hb); have n2_ := Aside0.mk (Kd.R_lower (Kd.R_new' ho79 (Kd.R_lt (by (with_reducible repeat (first | apply Kd.R_alloc | apply Kd.R_drewN | apply Kd.R_drew)); exact HO128.out))) (below_size (by repeat (first | (with_reducible first | exact HB.out | apply below_alloc | apply pw_below_drewN | apply below_drew1) | exact HB.out)))); have n3_ := Aside0.mk (below_step (by repeat (first | (with_reducible first | exact HB.out | apply below_alloc | apply pw_below_drewN | apply below_drew1) | exact HB.out)) hb); clear HO128; clear HO132; clear HB; have HO128 := n0_; have HO132 := n1_; have HO135 := n2_; have HB := n3_; clear n0_ n1_ n2_ n3_; clear hb ho79; obtain ⟨Ao80, co80, eo80⟩ := Kd.R_slice HO135.out; subst eo80) | ((with_reducible refine gate_callee (f := 13) rfl ?_); refine goesL_ (some 16) rfl rfl Try.func13 (by kernel_rfl) rfl #[.slice Ao80 y133.length co80] rfl (by (try simp only [List.map_toArray, List.map_cons, List.map_nil]); first | done | rfl | (simp only [List.length_drop, List.length_take]; rfl)) ?_; (with_reducible refine (strings_Prefixes.calls _ _ y133 t136 t137 _ ?side1 ?side2 A2.out).mono ?_); (case side1 => repeat (first | exact (Kd.R_reads' HO135.out).2.2 | (with_reducible refine Kd.C_alloc ?_ _) | (with_reducible refine Kd.C_drewN ?_ _) | (with_reducible refine Kd.C_drew ?_))); (case side2 => exact (Kd.R_reads' HO135.out).2.1); rintro e w81 ⟨v138, rfl, ho0, hb⟩; refine ⟨_, rfl, ?_⟩; have n0_ := Aside0.mk (Kd.R_below (by (with_reducible repeat (first | apply Kd.R_alloc | apply Kd.R_drewN | apply Kd.R_drew)); exact HO128.out) hb); have n1_ := Aside0.mk (Kd.R_elder' (by (with_reducible repeat (first | apply Kd.R_alloc | apply Kd.R_drewN | apply Kd.R_drew)); exact HO132.out) (Kd.R_base ho0) hb); have n2_ := Aside0.mk (Kd.R_below (by (with_reducible repeat (first | apply Kd.R_alloc | apply Kd.R_drewN | apply Kd.R_drew)); exact HO135.out) hb); have n3_ := Aside0.mk (Kd.R_lower (Kd.R_new' ho0 (Kd.R_lt (by (with_reducible repeat (first | apply Kd.R_alloc | apply Kd.R_drewN | apply Kd.R_drew)); exact HO132.out))) (below_size (by repeat (first | (with_reducible first | exact HB.out | apply below_alloc | apply pw_below_drewN | apply below_drew1) | exact HB.out)))); have n4_ := Aside0.mk (below_step (by repeat (first | (with_reducible first | exact HB.out | apply below_alloc | apply pw_below_drewN | apply below_drew1) | exact HB.out)) hb); clear HO128; clear HO132; clear HO135; clear HB; have HO128 := n0_; have HO132 := n1_; have HO135 := n2_; have HO139 := n3_; have HB := n4_; clear n0_ n1_ n2_ n3_ n4_; (try clear hb); (try clear hb2); (try clear hk); (try clear hi); (try clear ho0); obtain ⟨Ao82, co82, eo82⟩ := Kd.R_slice HO132.out; subst eo82) | ((with_reducible refine gate_callee (f := 19) rfl ?_); refine goesL_ (some 21) rfl rfl Try.func19 (by kernel_rfl) rfl #[.slice Ao82 t129.length co82, .int .i64 2] rfl (by (try simp only [List.map_toArray, List.map_cons, List.map_nil]); first | done | rfl | (simp only [List.length_drop, List.length_take]; rfl)) ?_; (with_reducible refine (strings_ReadLengths.calls _ _ t129 2 t140 t141 _ ?side1 ?side2 A3.out).mono ?_); (case side1 => repeat (first | exact (Kd.R_reads' HO132.out).2.2 | (with_reducible refine Kd.C_alloc ?_ _) | (with_reducible refine Kd.C_drewN ?_ _) | (with_reducible refine Kd.C_drew ?_))); (case side2 => exact (Kd.R_reads' HO132.out).2.1); rintro e w83 ⟨v142, rfl, ho0, hb⟩; refine ⟨_, rfl, ?_⟩; have n0_ := Aside0.mk (Kd.R_elder' (by (with_reducible repeat (first | apply Kd.R_alloc | apply Kd.R_drewN | apply Kd.R_drew)); exact HO128.out) (Kd.R_base ho0) hb); have n1_ := Aside0.mk (Kd.R_below (by (with_reducible repeat (first | apply Kd.R_alloc | apply Kd.R_drewN | apply Kd.R_drew)); exact HO132.out) hb); have n2_ := Aside0.mk (Kd.R_elder' (by (with_reducible repeat (first | apply Kd.R_alloc | apply Kd.R_drewN | apply Kd.R_drew)); exact HO135.out) (Kd.R_base ho0) hb); have n3_ := Aside0.mk (Kd.R_below (by (with_reducible repeat (first | apply Kd.R_alloc | apply Kd.R_drewN | apply Kd.R_drew)); exact HO139.out) hb); have n4_ := Aside0.mk (Kd.R_lower (Kd.R_new' (Kd.R_new' ho0 (Kd.R_lt (by (with_reducible repeat (first | apply Kd.R_alloc | apply Kd.R_drewN | apply Kd.R_drew)); exact HO128.out))) (Kd.R_lt (by (with_reducible repeat (first | apply Kd.R_alloc | apply Kd.R_drewN | apply Kd.R_drew)); exact HO135.out))) (below_size (by repeat (first | (with_reducible first | exact HB.out | apply below_alloc | apply pw_below_drewN | apply below_drew1) | exact HB.out)))); have n5_ := Aside0.mk (below_step (by repeat (first | (with_reducible first | exact HB.out | apply below_alloc | apply pw_below_drewN | apply below_drew1) | exact HB.out)) hb); clear HO128; clear HO132; clear HO135; clear HO139; clear HB; have HO128 := n0_; have HO132 := n1_; have HO135 := n2_; have HO139 := n3_; have HO143 := n4_; have HB := n5_; clear n0_ n1_ n2_ n3_ n4_ n5_; (try clear hb); (try clear hb2); (try clear hk); (try clear hi); (try clear ho0); obtain ⟨Ao84, co84, eo84⟩ := Kd.R_slice HO139.out; subst eo84) | ((with_reducible refine gate_callee (f := 22) rfl ?_); refine goesL_ (some 26) rfl rfl Try.func22 (by kernel_rfl) rfl #[.slice Ao84 t136.length co84, .int .i64 2] rfl (by (try simp only [List.map_toArray, List.map_cons, List.map_nil]); first | done | rfl | (simp only [List.length_drop, List.length_take]; rfl)) ?_; (with_reducible refine (strings_ReadPrefixes.calls _ _ t136 2 t144 t145 _ ?side1 ?side2 A4.out).mono ?_); (case side1 => repeat (first | exact (Kd.R_reads' HO139.out).2.2 | (with_reducible refine Kd.C_alloc ?_ _) | (with_reducible refine Kd.C_drewN ?_ _) | (with_reducible refine Kd.C_drew ?_))); (case side2 => exact (Kd.R_reads' HO139.out).2.1); rintro e w85 ⟨v146, rfl, ho0, hb⟩; refine ⟨_, rfl, ?_⟩; have n0_ := Aside0.mk (Kd.R_elder' (by (with_reducible repeat (first | apply Kd.R_alloc | apply Kd.R_drewN | apply Kd.R_drew)); exact HO128.out) (Kd.R_base ho0) hb); have n1_ := Aside0.mk (Kd.R_below (by (with_reducible repeat (first | apply Kd.R_alloc | apply Kd.R_drewN | apply Kd.R_drew)); exact HO132.out) hb); have n2_ := Aside0.mk (Kd.R_elder' (by (with_reducible repeat (first | apply Kd.R_alloc | apply Kd.R_drewN | apply Kd.R_drew)); exact HO135.out) (Kd.R_base ho0) hb); have n3_ := Aside0.mk (Kd.R_below (by (with_reducible repeat (first | apply Kd.R_alloc | apply Kd.R_drewN | apply Kd.R_drew)); exact HO139.out) hb); have n4_ := Aside0.mk (Kd.R_elder' (by (with_reducible repeat (first | apply Kd.R_alloc | apply Kd.R_drewN | apply Kd.R_drew)); exact HO143.out) (Kd.R_base ho0) hb); have n5_ := Aside0.mk (Kd.R_lower (Kd.R_new' (Kd.R_new' (Kd.R_new' ho0 (Kd.R_lt (by (with_reducible repeat (first | apply Kd.R_alloc | apply Kd.R_drewN | apply Kd.R_drew)); exact HO128.out))) (Kd.R_lt (by (with_reducible repeat (first | apply Kd.R_alloc | apply Kd.R_drewN | apply Kd.R_drew)); exact HO135.out))) (Kd.R_lt (by (with_reducible repeat (first | apply Kd.R_alloc | apply Kd.R_drewN | apply Kd.R_drew)); exact HO143.out))) (below_size (by repeat (first | (with_reducible first | exact HB.out | apply below_alloc | apply pw_below_drewN | apply below_drew1) | exact HB.out)))); have n6_ := Aside0.mk (below_step (by repeat (first | (with_reducible first | exact HB.out | apply below_alloc | apply pw_below_drewN | apply below_drew1) | exact HB.out)) hb); clear HO128; clear HO132; clear HO135; clear HO139; clear HO143; clear HB; have HO128 := n0_; have HO132 := n1_; have HO135 := n2_; have HO139 := n3_; have HO143 := n4_; have HO147 := n5_; have HB := n6_; clear n0_ n1_ n2_ n3_ n4_ n5_ n6_; (try clear hb); (try clear hb2); (try clear hk); (try clear hi); (try clear ho0); have hcv86 := own_string (P := Try.prog) Try.underlying25 Try.underlying5 Try.underlying9 (Kd.own_of_R HO132.out)) | (go_at_call 16; (with_reducible refine (marquetrylaw14_num.calls t130 t148 _ A6.out).mono ?_); rintro e w' ⟨rfl, ⟨nd, rfl⟩⟩) | (go_at_call 16; (with_reducible refine (marquetrylaw14_num.calls t137 t149 _ A7.out).mono ?_); rintro e w' ⟨rfl, ⟨nd, rfl⟩⟩) | (go_at_call 16; (with_reducible refine (marquetrylaw14_num.calls t141 t150 _ A8.out).mono ?_); rintro e w' ⟨rfl, ⟨nd, rfl⟩⟩) | (go_at_call 16; (with_reducible refine (marquetrylaw14_num.calls t145 t151 _ A9.out).mono ?_); rintro e w' ⟨rfl, ⟨nd, rfl⟩⟩))
   go_ret
   exact ⟨by first | rfl | (simp [errW_none, errW_some] <;> rfl) | (simp [*, errW_none, errW_some] <;> rfl), by repeat (first | (with_reducible first | exact HB.out | apply below_alloc | apply pw_below_drewN | apply below_drew1) | exact HB.out)⟩
 ·rw [if_neg c5] at H
  have c5b0 : ((strOfNums t129).toList == ([128, 1, 4, 2, 4, 1, 0, 0, 0, 0, 97, 98, 99] : List UInt8)) = false := beq_eq_false_iff_ne.mpr c5
  have c5b1 : ((strOfNums t129).toList != ([128, 1, 4, 2, 4, 1, 0, 0, 0, 0, 97, 98, 99] : List UInt8)) = true := bne_iff_ne.mpr c5
  obtain rfl := Option.some.inj H
  go_enter Try.func11, Try.ntmps11
  go_wp2_with (first | ((with_reducible refine gate_dst (N := 10) rfl ?_); (try (refine gate_guard (by rfl) ?_; dsimp only)); refine Kd.R_lit Kd.string _ 9 ?hg (N := 10) ?hd (xs := ([(⟨#[97, 98]⟩ : ByteArray), (⟨#[99]⟩ : ByteArray)] : List ByteArray)) (inner := [.string (⟨#[97, 98]⟩ : ByteArray), .string (⟨#[99]⟩ : ByteArray)]) (ok := fun _ => True) (okp := fun _ => True) ?hr ?hp (fun _ hk => hk) trivial (Below.refl _ _) (Nat.le_refl _) (by simp) ?_; (case hd => rfl); (case hg => rfl); (case hr => first | (go_simp; done) | (go_simp; rfl)); (case hp => exact (Reps.one (show Kd.M Kd.string _ _ _ (⟨#[97, 98]⟩ : ByteArray) [.string (⟨#[97, 98]⟩ : ByteArray)] from rfl) (Reps.one (show Kd.M Kd.string _ _ _ (⟨#[99]⟩ : ByteArray) [.string (⟨#[99]⟩ : ByteArray)] from rfl) (Reps.none _ _)))); intro v127 w87 ho88 hb hg_ hnew_; clear hg_ hnew_; (first | rw [← Ny126.out] at ho88 | (simp only [Int.reduceToNat] at ho88; rw [← Ny126.out] at ho88)); have n0_ := Aside0.mk (Kd.R_lower ho88 (below_size (by repeat (first | (with_reducible first | exact HB.out | apply below_alloc | apply pw_below_drewN | apply below_drew1) | exact HB.out)))); have n1_ := Aside0.mk (below_step (by repeat (first | (with_reducible first | exact HB.out | apply below_alloc | apply pw_below_drewN | apply below_drew1) | exact HB.out)) hb); clear HB; have HO128 := n0_; have HB := n1_; clear n0_ n1_; clear hb ho88; obtain ⟨Ao89, co89, eo89⟩ := Kd.R_slice HO128.out; subst eo89) | ((with_reducible refine gate_callee (f := 12) rfl ?_); refine goesL_ (some 11) rfl rfl Try.func12 (by kernel_rfl) rfl #[.slice Ao89 y126.length co89] rfl (by (try simp only [List.map_toArray, List.map_cons, List.map_nil]); first | done | rfl | (simp only [List.length_drop, List.length_take]; rfl)) ?_; (with_reducible refine (strings_Lengths.calls _ _ y126 t129 t130 _ ?side1 ?side2 A1.out).mono ?_); (case side1 => repeat (first | exact (Kd.R_reads' HO128.out).2.2 | (with_reducible refine Kd.C_alloc ?_ _) | (with_reducible refine Kd.C_drewN ?_ _) | (with_reducible refine Kd.C_drew ?_))); (case side2 => exact (Kd.R_reads' HO128.out).2.1); rintro e w90 ⟨v131, rfl, ho0, hb⟩; refine ⟨_, rfl, ?_⟩; have n0_ := Aside0.mk (Kd.R_below (by (with_reducible repeat (first | apply Kd.R_alloc | apply Kd.R_drewN | apply Kd.R_drew)); exact HO128.out) hb); have n1_ := Aside0.mk (Kd.R_lower ho0 (below_size (by repeat (first | (with_reducible first | exact HB.out | apply below_alloc | apply pw_below_drewN | apply below_drew1) | exact HB.out)))); have n2_ := Aside0.mk (below_step (by repeat (first | (with_reducible first | exact HB.out | apply below_alloc | apply pw_below_drewN | apply below_drew1) | exact HB.out)) hb); clear HO128; clear HB; have HO128 := n0_; have HO132 := n1_; have HB := n2_; clear n0_ n1_ n2_; (try clear hb); (try clear hb2); (try clear hk); (try clear hi); (try clear ho0)) | ((with_reducible refine gate_dst (N := 15) rfl ?_); (try (refine gate_guard (by rfl) ?_; dsimp only)); refine Kd.R_lit Kd.string _ 9 ?hg (N := 15) ?hd (xs := ([(⟨#[97, 98]⟩ : ByteArray), (⟨#[97, 98, 99]⟩ : ByteArray)] : List ByteArray)) (inner := [.string (⟨#[97, 98]⟩ : ByteArray), .string (⟨#[97, 98, 99]⟩ : ByteArray)]) (ok := fun _ => True) (okp := fun _ => True) ?hr ?hp (fun _ hk => hk) trivial (Below.refl _ _) (Nat.le_refl _) (by simp) ?_; (case hd => rfl); (case hg => rfl); (case hr => first | (go_simp; done) | (go_simp; rfl)); (case hp => exact (Reps.one (show Kd.M Kd.string _ _ _ (⟨#[97, 98]⟩ : ByteArray) [.string (⟨#[97, 98]⟩ : ByteArray)] from rfl) (Reps.one (show Kd.M Kd.string _ _ _ (⟨#[97, 98, 99]⟩ : ByteArray) [.string (⟨#[97, 98, 99]⟩ : ByteArray)] from rfl) (Reps.none _ _)))); intro v134 w91 ho92 hb hg_ hnew_; clear hg_ hnew_; (first | rw [← Ny133.out] at ho92 | (simp only [Int.reduceToNat] at ho92; rw [← Ny133.out] at ho92)); have n0_ := Aside0.mk (Kd.R_elder' (by (with_reducible repeat (first | apply Kd.R_alloc | apply Kd.R_drewN | apply Kd.R_drew)); exact HO128.out) (Kd.R_base ho92) hb); have n1_ := Aside0.mk (Kd.R_below (by (with_reducible repeat (first | apply Kd.R_alloc | apply Kd.R_drewN | apply Kd.R_drew)); exact HO132.out) hb); have n2_ := Aside0.mk (Kd.R_lower (Kd.R_new' ho92 (Kd.R_lt (by (with_reducible repeat (first | apply Kd.R_alloc | apply Kd.R_drewN | apply Kd.R_drew)); exact HO128.out))) (below_size (by repeat (first | (with_reducible first | exact HB.out | apply below_alloc | apply pw_below_drewN | apply below_drew1) | exact HB.out)))); have n3_ := Aside0.mk (below_step (by repeat (first | (with_reducible first | exact HB.out | apply below_alloc | apply pw_below_drewN | apply below_drew1) | exact HB.out)) hb); clear HO128; clear HO132; clear HB; have HO128 := n0_; have HO132 := n1_; have HO135 := n2_; have HB := n3_; clear n0_ n1_ n2_ n3_; clear hb ho92; obtain ⟨Ao93, co93, eo93⟩ := Kd.R_slice HO135.out; subst eo93) | ((with_reducible refine gate_callee (f := 13) rfl ?_); refine goesL_ (some 16) rfl rfl Try.func13 (by kernel_rfl) rfl #[.slice Ao93 y133.length co93] rfl (by (try simp only [List.map_toArray, List.map_cons, List.map_nil]); first | done | rfl | (simp only [List.length_drop, List.length_take]; rfl)) ?_; (with_reducible refine (strings_Prefixes.calls _ _ y133 t136 t137 _ ?side1 ?side2 A2.out).mono ?_); (case side1 => repeat (first | exact (Kd.R_reads' HO135.out).2.2 | (with_reducible refine Kd.C_alloc ?_ _) | (with_reducible refine Kd.C_drewN ?_ _) | (with_reducible refine Kd.C_drew ?_))); (case side2 => exact (Kd.R_reads' HO135.out).2.1); rintro e w94 ⟨v138, rfl, ho0, hb⟩; refine ⟨_, rfl, ?_⟩; have n0_ := Aside0.mk (Kd.R_below (by (with_reducible repeat (first | apply Kd.R_alloc | apply Kd.R_drewN | apply Kd.R_drew)); exact HO128.out) hb); have n1_ := Aside0.mk (Kd.R_elder' (by (with_reducible repeat (first | apply Kd.R_alloc | apply Kd.R_drewN | apply Kd.R_drew)); exact HO132.out) (Kd.R_base ho0) hb); have n2_ := Aside0.mk (Kd.R_below (by (with_reducible repeat (first | apply Kd.R_alloc | apply Kd.R_drewN | apply Kd.R_drew)); exact HO135.out) hb); have n3_ := Aside0.mk (Kd.R_lower (Kd.R_new' ho0 (Kd.R_lt (by (with_reducible repeat (first | apply Kd.R_alloc | apply Kd.R_drewN | apply Kd.R_drew)); exact HO132.out))) (below_size (by repeat (first | (with_reducible first | exact HB.out | apply below_alloc | apply pw_below_drewN | apply below_drew1) | exact HB.out)))); have n4_ := Aside0.mk (below_step (by repeat (first | (with_reducible first | exact HB.out | apply below_alloc | apply pw_below_drewN | apply below_drew1) | exact HB.out)) hb); clear HO128; clear HO132; clear HO135; clear HB; have HO128 := n0_; have HO132 := n1_; have HO135 := n2_; have HO139 := n3_; have HB := n4_; clear n0_ n1_ n2_ n3_ n4_; (try clear hb); (try clear hb2); (try clear hk); (try clear hi); (try clear ho0); obtain ⟨Ao95, co95, eo95⟩ := Kd.R_slice HO132.out; subst eo95) | ((with_reducible refine gate_callee (f := 19) rfl ?_); refine goesL_ (some 21) rfl rfl Try.func19 (by kernel_rfl) rfl #[.slice Ao95 t129.length co95, .int .i64 2] rfl (by (try simp only [List.map_toArray, List.map_cons, List.map_nil]); first | done | rfl | (simp only [List.length_drop, List.length_take]; rfl)) ?_; (with_reducible refine (strings_ReadLengths.calls _ _ t129 2 t140 t141 _ ?side1 ?side2 A3.out).mono ?_); (case side1 => repeat (first | exact (Kd.R_reads' HO132.out).2.2 | (with_reducible refine Kd.C_alloc ?_ _) | (with_reducible refine Kd.C_drewN ?_ _) | (with_reducible refine Kd.C_drew ?_))); (case side2 => exact (Kd.R_reads' HO132.out).2.1); rintro e w96 ⟨v142, rfl, ho0, hb⟩; refine ⟨_, rfl, ?_⟩; have n0_ := Aside0.mk (Kd.R_elder' (by (with_reducible repeat (first | apply Kd.R_alloc | apply Kd.R_drewN | apply Kd.R_drew)); exact HO128.out) (Kd.R_base ho0) hb); have n1_ := Aside0.mk (Kd.R_below (by (with_reducible repeat (first | apply Kd.R_alloc | apply Kd.R_drewN | apply Kd.R_drew)); exact HO132.out) hb); have n2_ := Aside0.mk (Kd.R_elder' (by (with_reducible repeat (first | apply Kd.R_alloc | apply Kd.R_drewN | apply Kd.R_drew)); exact HO135.out) (Kd.R_base ho0) hb); have n3_ := Aside0.mk (Kd.R_below (by (with_reducible repeat (first | apply Kd.R_alloc | apply Kd.R_drewN | apply Kd.R_drew)); exact HO139.out) hb); have n4_ := Aside0.mk (Kd.R_lower (Kd.R_new' (Kd.R_new' ho0 (Kd.R_lt (by (with_reducible repeat (first | apply Kd.R_alloc | apply Kd.R_drewN | apply Kd.R_drew)); exact HO128.out))) (Kd.R_lt (by (with_reducible repeat (first | apply Kd.R_alloc | apply Kd.R_drewN | apply Kd.R_drew)); exact HO135.out))) (below_size (by repeat (first | (with_reducible first | exact HB.out | apply below_alloc | apply pw_below_drewN | apply below_drew1) | exact HB.out)))); have n5_ := Aside0.mk (below_step (by repeat (first | (with_reducible first | exact HB.out | apply below_alloc | apply pw_below_drewN | apply below_drew1) | exact HB.out)) hb); clear HO128; clear HO132; clear HO135; clear HO139; clear HB; have HO128 := n0_; have HO132 := n1_; have HO135 := n2_; have HO139 := n3_; have HO143 := n4_; have HB := n5_; clear n0_ n1_ n2_ n3_ n4_ n5_; (try clear hb); (try clear hb2); (try clear hk); (try clear hi); (try clear ho0); obtain ⟨Ao97, co97, eo97⟩ := Kd.R_slice HO139.out; subst eo97) | ((with_reducible refine gate_callee (f := 22) rfl ?_); refine goesL_ (some 26) rfl rfl Try.func22 (by kernel_rfl) rfl #[.slice Ao97 t136.length co97, .int .i64 2] rfl (by (try simp only [List.map_toArray, List.map_cons, List.map_nil]); first | done | rfl | (simp only [List.length_drop, List.length_take]; rfl)) ?_; (with_reducible refine (strings_ReadPrefixes.calls _ _ t136 2 t144 t145 _ ?side1 ?side2 A4.out).mono ?_); (case side1 => repeat (first | exact (Kd.R_reads' HO139.out).2.2 | (with_reducible refine Kd.C_alloc ?_ _) | (with_reducible refine Kd.C_drewN ?_ _) | (with_reducible refine Kd.C_drew ?_))); (case side2 => exact (Kd.R_reads' HO139.out).2.1); rintro e w98 ⟨v146, rfl, ho0, hb⟩; refine ⟨_, rfl, ?_⟩; have n0_ := Aside0.mk (Kd.R_elder' (by (with_reducible repeat (first | apply Kd.R_alloc | apply Kd.R_drewN | apply Kd.R_drew)); exact HO128.out) (Kd.R_base ho0) hb); have n1_ := Aside0.mk (Kd.R_below (by (with_reducible repeat (first | apply Kd.R_alloc | apply Kd.R_drewN | apply Kd.R_drew)); exact HO132.out) hb); have n2_ := Aside0.mk (Kd.R_elder' (by (with_reducible repeat (first | apply Kd.R_alloc | apply Kd.R_drewN | apply Kd.R_drew)); exact HO135.out) (Kd.R_base ho0) hb); have n3_ := Aside0.mk (Kd.R_below (by (with_reducible repeat (first | apply Kd.R_alloc | apply Kd.R_drewN | apply Kd.R_drew)); exact HO139.out) hb); have n4_ := Aside0.mk (Kd.R_elder' (by (with_reducible repeat (first | apply Kd.R_alloc | apply Kd.R_drewN | apply Kd.R_drew)); exact HO143.out) (Kd.R_base ho0) hb); have n5_ := Aside0.mk (Kd.R_lower (Kd.R_new' (Kd.R_new' (Kd.R_new' ho0 (Kd.R_lt (by (with_reducible repeat (first | apply Kd.R_alloc | apply Kd.R_drewN | apply Kd.R_drew)); exact HO128.out))) (Kd.R_lt (by (with_reducible repeat (first | apply Kd.R_alloc | apply Kd.R_drewN | apply Kd.R_drew)); exact HO135.out))) (Kd.R_lt (by (with_reducible repeat (first | apply Kd.R_alloc | apply Kd.R_drewN | apply Kd.R_drew)); exact HO143.out))) (below_size (by repeat (first | (with_reducible first | exact HB.out | apply below_alloc | apply pw_below_drewN | apply below_drew1) | exact HB.out)))); have n6_ := Aside0.mk (below_step (by repeat (first | (with_reducible first | exact HB.out | apply below_alloc | apply pw_below_drewN | apply below_drew1) | exact HB.out)) hb); clear HO128; clear HO132; clear HO135; clear HO139; clear HO143; clear HB; have HO128 := n0_; have HO132 := n1_; have HO135 := n2_; have HO139 := n3_; have HO143 := n4_; have HO147 := n5_; have HB := n6_; clear n0_ n1_ n2_ n3_ n4_ n5_ n6_; (try clear hb); (try clear hb2); (try clear hk); (try clear hi); (try clear ho0); have hcv99 := own_string (P := Try.prog) Try.underlying25 Try.underlying5 Try.underlying9 (Kd.own_of_R HO132.out)))
  go_ret
  exact ⟨by first | rfl | (simp [errW_none, errW_some] <;> rfl) | (simp [*, errW_none, errW_some] <;> rfl), by repeat (first | (with_reducible first | exact HB.out | apply below_alloc | apply pw_below_drewN | apply below_drew1) | exact HB.out)⟩
end Go.Proofs.Ytcdephhplmcmjaa.X
end

section
namespace Go.Proofs.Ytcdephhplmcmjaa.X
open Go.RowKit Go.Proofs.YtcdephhplmcmjaaW.PrintWords Go.Proofs.YtcdephhplmcmjaaW.PrintLast Go.Proofs.YtcdephhplmcmjaaW.PrintMore
attribute [local go_sem] max2_int min2_int max_two min_two max_three min_three max_four min_four
set_option linter.unusedVariables false
set_option linter.unusedSimpArgs false
def marquetrylaw14_long.l0 : Nat → List ByteArray → Int → Int → Option (Bool)
 | 0, _, _, _ => none
 | k + 1, x0, x3, x4 => if x4 < (x0.length : Int) then (if x3 ≤ 3000 then (if 0 ≤ x4 then (marquetrylaw14_long.l0 k x0 (wrap64 ((wrap64 (x3 + 1)) + ((rdOf ByteArray.empty x0 x4).size : Int))) (wrap64 (x4 + 1))) else (none)) else (some (decide (x3 > 3000)))) else (some (decide (x3 > 3000)))
def marquetrylaw14_long.f (k : Nat) (l0 : List ByteArray) : Option (Bool) := marquetrylaw14_long.l0 k l0 0 0
theorem marquetrylaw14_long.mono_l : ∀ k, (∀ y0 y1 y2, LeO (marquetrylaw14_long.l0 k y0 y1 y2) (marquetrylaw14_long.l0 (k + 1) y0 y1 y2))
 | 0 => fun _ _ _ r h => by simp [marquetrylaw14_long.l0] at h
 | k + 1 => by
  have ih0 := marquetrylaw14_long.mono_l k
  ·intro y0 y1 y2
   unfold marquetrylaw14_long.l0
   repeat' first
   | (with_reducible exact ih0 _ _ _)
   | (with_reducible exact LeO.refl _)
   | (with_reducible exact LeO.none _)
   | (with_reducible refine LeO.ite ?_ ?_)
   | (with_reducible refine LeO.bind ?_ (fun _ => ?_))
   | exact ih0 _ _ _
   | exact LeO.none _
   | refine LeO.ite ?_ ?_
   | refine LeO.bind ?_ (fun _ => ?_)
theorem marquetrylaw14_long.mono : ∀ a0 k, LeO (marquetrylaw14_long.f k a0) (marquetrylaw14_long.f (k + 1) a0) := by
 intro a0 k
 have ih0 := marquetrylaw14_long.mono_l k
 unfold marquetrylaw14_long.f
 repeat' first
   | (with_reducible exact ih0 _ _ _)
   | (with_reducible exact LeO.refl _)
   | (with_reducible exact LeO.none _)
   | (with_reducible refine LeO.ite ?_ ?_)
   | (with_reducible refine LeO.bind ?_ (fun _ => ?_))
   | exact ih0 _ _ _
   | exact LeO.none _
   | refine LeO.ite ?_ ?_
   | refine LeO.bind ?_ (fun _ => ?_)
set_option maxHeartbeats 8000000 in
set_option maxRecDepth 100000 in
theorem marquetrylaw14_long.calls (k : Nat) (A0 : Option Addr) (c0 : Nat) (l0 : List ByteArray) (r : Bool) (w : World) (hr0 : Kd.C Kd.string w A0 l0.length l0) (hc0 : l0.length ≤ c0) (h : marquetrylaw14_long.f k l0 = some r) :
  Calls Try.prog 10 #[.slice A0 l0.length c0] w fun e w' => e = .returned (.bool r) ∧ Drawn0 w w' := by
 have HR0 := Aside0.mk hr0
 have HC0 := Aside0.mk hc0
 clear hr0 hc0
 have H : (marquetrylaw14_long.l0 k l0 0 0) = some r := h
 clear h
 have H' := Aside0.mk H
 clear H
 go_enter Try.func10, Try.ntmps10
 go_wp2
 go_loopg [3, 4] k (fun kq v3 v4 w' => ∃ (x3_1 : Int) (x4_1 : Int), v3 = .int .i64 x3_1 ∧ v4 = .int .i64 x4_1 ∧ Aside0 (marquetrylaw14_long.l0 kq l0 x3_1 x4_1 = some r) ∧ Aside0 (kq ≤ k) ∧ Drawn0 w w')
 case atStart => exact ⟨(0), (0), (by first | rfl | (simp; done) | (simp [*]; done)), (by first | rfl | (simp; done) | (simp [*]; done)), H', ⟨Nat.le_refl _⟩, by repeat (first | exact Drawn0.refl _ | apply Drawn0.step)⟩
 case round =>
  clear H'
  try clear c1
  obtain ⟨x3_1, x4_1, rfl, rfl, HA, HK1, ⟨m1, rfl⟩⟩ := hrel
  cases gk with
  | zero => exact absurd HA.out (by simp [marquetrylaw14_long.l0])
  | succ k1 =>
   have H := HA.out
   clear HA
   simp only [marquetrylaw14_long.l0] at H
   by_cases c2 : x4_1 < (l0.length : Int)
   ·rw [if_pos c2] at H
    have c2b0 : decide (x4_1 < (l0.length : Int)) = true := decide_eq_true c2
    clear c2
    by_cases c3 : x3_1 ≤ 3000
    ·rw [if_pos c3] at H
     have c3b0 : decide (x3_1 ≤ 3000) = true := decide_eq_true c3
     clear c3
     by_cases c4 : 0 ≤ x4_1
     ·rw [if_pos c4] at H
      have c4b0 : decide (0 ≤ x4_1) = true := decide_eq_true c4
      clear c4
      have H' := Aside0.mk H
      clear H
      have p101 : 0 ≤ (x4_1 : Int) := of_decide_eq_true (by first | (with_reducible assumption) | assumption)
      have q101 : x4_1 < (l0.length : Int) := of_decide_eq_true (by first | (with_reducible assumption) | assumption)
      obtain ⟨ad101, e101, hx101_0⟩ := Kd.at_string HR0.out x4_1 p101 q101
      cases e101
      replace p101 := eq_true p101
      replace q101 := eq_true q101
      go_wp2
      go_roundg k1
      case measure => have := HK1.out; omega
      case rel => exact ⟨(wrap64 ((wrap64 (x3_1 + 1)) + ((rdOf ByteArray.empty l0 x4_1).size : Int))), (wrap64 (x4_1 + 1)), (by first | rfl | (simp; done) | (simp [*]; done)), (by first | rfl | (simp; done) | (simp [*]; done)), H', ⟨by have := HK1.out; omega⟩, by repeat (first | exact Drawn0.refl _ | apply Drawn0.step)⟩
     ·rw [if_neg c4] at H
      exact absurd H (by simp)
    ·rw [if_neg c3] at H
     have c3b0 : decide (x3_1 ≤ 3000) = false := decide_eq_false c3
     clear c3
     obtain rfl := Option.some.inj H
     go_wp2
     go_ret
     exact ⟨by first | rfl | (simp; done) | (simp [*]; done), by repeat (first | exact Drawn0.refl _ | apply Drawn0.step)⟩
   ·rw [if_neg c2] at H
    have c2b0 : decide (x4_1 < (l0.length : Int)) = false := decide_eq_false c2
    clear c2
    obtain rfl := Option.some.inj H
    go_wp2
    go_ret
    exact ⟨by first | rfl | (simp; done) | (simp [*]; done), by repeat (first | exact Drawn0.refl _ | apply Drawn0.step)⟩
end Go.Proofs.Ytcdephhplmcmjaa.X
end

section
namespace Go.Proofs.Ytcdephhplmcmjaa.X
open Go.RowKit Go.Proofs.YtcdephhplmcmjaaW.PrintWords Go.Proofs.YtcdephhplmcmjaaW.PrintLast Go.Proofs.YtcdephhplmcmjaaW.PrintMore
attribute [local go_sem] max2_int min2_int max_two min_two max_three min_three max_four min_four
set_option linter.unusedVariables false
set_option linter.unusedSimpArgs false
def marquetryref14_Long.l0 : Nat → List ByteArray → Int → Int → Option (Bool)
 | 0, _, _, _ => none
 | k + 1, x0, x3, x4 => if x4 < (x0.length : Int) then (if x3 ≤ 1048576 then (if 0 ≤ x4 then (marquetryref14_Long.l0 k x0 (wrap64 (x3 + ((rdOf ByteArray.empty x0 x4).size : Int))) (wrap64 (x4 + 1))) else (none)) else (if x3 > 1048576 then (some true) else (some (decide ((x0.length : Int) > 65536))))) else (if x3 > 1048576 then (some true) else (some (decide ((x0.length : Int) > 65536))))
def marquetryref14_Long.f (k : Nat) (l0 : List ByteArray) : Option (Bool) := marquetryref14_Long.l0 k l0 0 0
theorem marquetryref14_Long.mono_l : ∀ k, (∀ y0 y1 y2, LeO (marquetryref14_Long.l0 k y0 y1 y2) (marquetryref14_Long.l0 (k + 1) y0 y1 y2))
 | 0 => fun _ _ _ r h => by simp [marquetryref14_Long.l0] at h
 | k + 1 => by
  have ih0 := marquetryref14_Long.mono_l k
  ·intro y0 y1 y2
   unfold marquetryref14_Long.l0
   repeat' first
   | (with_reducible exact ih0 _ _ _)
   | (with_reducible exact LeO.refl _)
   | (with_reducible exact LeO.none _)
   | (with_reducible refine LeO.ite ?_ ?_)
   | (with_reducible refine LeO.bind ?_ (fun _ => ?_))
   | exact ih0 _ _ _
   | exact LeO.none _
   | refine LeO.ite ?_ ?_
   | refine LeO.bind ?_ (fun _ => ?_)
theorem marquetryref14_Long.mono : ∀ a0 k, LeO (marquetryref14_Long.f k a0) (marquetryref14_Long.f (k + 1) a0) := by
 intro a0 k
 have ih0 := marquetryref14_Long.mono_l k
 unfold marquetryref14_Long.f
 repeat' first
   | (with_reducible exact ih0 _ _ _)
   | (with_reducible exact LeO.refl _)
   | (with_reducible exact LeO.none _)
   | (with_reducible refine LeO.ite ?_ ?_)
   | (with_reducible refine LeO.bind ?_ (fun _ => ?_))
   | exact ih0 _ _ _
   | exact LeO.none _
   | refine LeO.ite ?_ ?_
   | refine LeO.bind ?_ (fun _ => ?_)
set_option maxHeartbeats 8000000 in
set_option maxRecDepth 100000 in
theorem marquetryref14_Long.calls (k : Nat) (A0 : Option Addr) (c0 : Nat) (l0 : List ByteArray) (r : Bool) (w : World) (hr0 : Kd.C Kd.string w A0 l0.length l0) (hc0 : l0.length ≤ c0) (h : marquetryref14_Long.f k l0 = some r) :
  Calls Try.prog 33 #[.slice A0 l0.length c0] w fun e w' => e = .returned (.bool r) ∧ Drawn0 w w' := by
 have HR0 := Aside0.mk hr0
 have HC0 := Aside0.mk hc0
 clear hr0 hc0
 have H : (marquetryref14_Long.l0 k l0 0 0) = some r := h
 clear h
 have H' := Aside0.mk H
 clear H
 go_enter Try.func33, Try.ntmps33
 go_wp2
 go_loopg [3, 4] k (fun kq v3 v4 w' => ∃ (x3_1 : Int) (x4_1 : Int), v3 = .int .i64 x3_1 ∧ v4 = .int .i64 x4_1 ∧ Aside0 (marquetryref14_Long.l0 kq l0 x3_1 x4_1 = some r) ∧ Aside0 (kq ≤ k) ∧ Drawn0 w w')
 case atStart => exact ⟨(0), (0), (by first | rfl | (simp; done) | (simp [*]; done)), (by first | rfl | (simp; done) | (simp [*]; done)), H', ⟨Nat.le_refl _⟩, by repeat (first | exact Drawn0.refl _ | apply Drawn0.step)⟩
 case round =>
  clear H'
  obtain ⟨x3_1, x4_1, rfl, rfl, HA, HK1, ⟨m1, rfl⟩⟩ := hrel
  cases gk with
  | zero => exact absurd HA.out (by simp [marquetryref14_Long.l0])
  | succ k1 =>
   have H := HA.out
   clear HA
   simp only [marquetryref14_Long.l0] at H
   by_cases c2 : x4_1 < (l0.length : Int)
   ·rw [if_pos c2] at H
    have c2b0 : decide (x4_1 < (l0.length : Int)) = true := decide_eq_true c2
    clear c2
    by_cases c3 : x3_1 ≤ 1048576
    ·rw [if_pos c3] at H
     have c3b0 : decide (x3_1 ≤ 1048576) = true := decide_eq_true c3
     clear c3
     by_cases c4 : 0 ≤ x4_1
     ·rw [if_pos c4] at H
      have c4b0 : decide (0 ≤ x4_1) = true := decide_eq_true c4
      clear c4
      have H' := Aside0.mk H
      clear H
      have p160 : 0 ≤ (x4_1 : Int) := of_decide_eq_true (by first | (with_reducible assumption) | assumption)
      have q160 : x4_1 < (l0.length : Int) := of_decide_eq_true (by first | (with_reducible assumption) | assumption)
      obtain ⟨ad160, e160, hx160_0⟩ := Kd.at_string HR0.out x4_1 p160 q160
      cases e160
      replace p160 := eq_true p160
      replace q160 := eq_true q160
      go_wp2
      go_roundg k1
      case measure => have := HK1.out; omega
      case rel => exact ⟨(wrap64 (x3_1 + ((rdOf ByteArray.empty l0 x4_1).size : Int))), (wrap64 (x4_1 + 1)), (by first | rfl | (simp; done) | (simp [*]; done)), (by first | rfl | (simp; done) | (simp [*]; done)), H', ⟨by have := HK1.out; omega⟩, by repeat (first | exact Drawn0.refl _ | apply Drawn0.step)⟩
     ·rw [if_neg c4] at H
      exact absurd H (by simp)
    ·rw [if_neg c3] at H
     have c3b0 : decide (x3_1 ≤ 1048576) = false := decide_eq_false c3
     clear c3
     by_cases c5 : x3_1 > 1048576
     ·rw [if_pos c5] at H
      have c5b0 : decide (1048576 < x3_1) = true := decide_eq_true c5
      clear c5
      obtain rfl := Option.some.inj H
      go_wp2
      go_ret
      exact ⟨by first | rfl | (simp; done) | (simp [*]; done), by repeat (first | exact Drawn0.refl _ | apply Drawn0.step)⟩
     ·rw [if_neg c5] at H
      have c5b0 : decide (1048576 < x3_1) = false := decide_eq_false c5
      clear c5
      obtain rfl := Option.some.inj H
      go_wp2
      go_ret
      exact ⟨by first | rfl | (simp; done) | (simp [*]; done), by repeat (first | exact Drawn0.refl _ | apply Drawn0.step)⟩
   ·rw [if_neg c2] at H
    have c2b0 : decide (x4_1 < (l0.length : Int)) = false := decide_eq_false c2
    clear c2
    by_cases c6 : x3_1 > 1048576
    ·rw [if_pos c6] at H
     have c6b0 : decide (1048576 < x3_1) = true := decide_eq_true c6
     clear c6
     obtain rfl := Option.some.inj H
     go_wp2
     go_ret
     exact ⟨by first | rfl | (simp; done) | (simp [*]; done), by repeat (first | exact Drawn0.refl _ | apply Drawn0.step)⟩
    ·rw [if_neg c6] at H
     have c6b0 : decide (1048576 < x3_1) = false := decide_eq_false c6
     clear c6
     obtain rfl := Option.some.inj H
     go_wp2
     go_ret
     exact ⟨by first | rfl | (simp; done) | (simp [*]; done), by repeat (first | exact Drawn0.refl _ | apply Drawn0.step)⟩
end Go.Proofs.Ytcdephhplmcmjaa.X
end
