/- StringsWrites: texts of this seat in one (wip/merge.py): Di, Dj, X57, Nx, Px, Ma, Mc, Md, Me, Sa, X13, Sc, Sb, Sd, Se, X15, X16, X17, Sf, Sg. -/
import Derived.Test.YtcdephhplmcmjaaGStringsWrites1
import Derived.Test.YtcdephhplmcmjaaGStringsWrites0
import Derived.Lib.BitFns
import Derived.Laws.MathBits
import Derived.Lib.AppendStr
import Derived.Deep.RegionHeld3
section
namespace Go.Proofs.Ytcdephhplmcmjaa.X
open Go.RowKit Go.Proofs.YtcdephhplmcmjaaW.PrintWords Go.Proofs.YtcdephhplmcmjaaW.PrintLast Go.Proofs.YtcdephhplmcmjaaW.PrintMore
set_option linter.unusedVariables false
set_option linter.unusedSimpArgs false
def SufS {α : Type} (res : Except Int (α × List Int)) (b : List Int) : Prop := ∀ v r, res = .ok (v, r) → r <:+ b
theorem SufS.and {α β : Type} {res : Except Int (α × List Int)} {b : List Int} {k : α → List Int → Except Int (β × List Int)} (h : SufS res b) (hk : ∀ v r, res = .ok (v, r) → SufS (k v r) r) : SufS (andS res k) b := by
  intro v r he
  cases hr : res with
  | error x => rw [hr, andS_err] at he; cases he
  | ok p =>
    obtain ⟨v1, r1⟩ := p
    rw [hr, andS_ok] at he
    exact (hk v1 r1 hr v r he).trans (h v1 r1 hr)
theorem SufS.map {α β : Type} {f : α → β} {res : Except Int (α × List Int)} {b : List Int} (h : SufS res b) : SufS (mapS f res) b := by
  intro v r he
  cases hr : res with
  | error x => rw [hr] at he; simp [mapS] at he
  | ok p =>
    obtain ⟨v1, r1⟩ := p
    rw [hr] at he
    obtain ⟨_, rfl⟩ : f v1 = v ∧ r1 = r := by simpa [mapS] using he
    exact h _ _ hr
theorem SufS.err {α : Type} (x : Int) (b : List Int) : SufS (.error x : Except Int (α × List Int)) b := fun _ _ h => by cases h
theorem SufS.ok {α : Type} (v : α) (b : List Int) : SufS (.ok (v, b)) b := fun _ r h => by cases h; exact List.suffix_rfl
theorem byteS_suf (b : List Int) : SufS (byteS b) b := by
  intro v r h
  rw [byteS_ok h]
  exact List.suffix_cons _ _
theorem numS_suf : ∀ (b : List Int) (sh : Nat) (n : Int), SufS (numS sh n b) b
  | [], sh, n => SufS.err _ _
  | c :: b, sh, n => by
    intro v r h
    rw [numS] at h
    split at h
    · split at h
      · obtain ⟨_, rfl⟩ : numN n c sh = v ∧ b = r := by simpa using h
        exact List.suffix_cons _ _
      · exact (numS_suf b _ _ _ _ h).trans (List.suffix_cons _ _)
    · cases h
theorem packedS_suf (w : Nat) (b : List Int) : SufS (packedS w b) b := by
  intro v r h
  unfold packedS at h
  split at h
  · obtain ⟨_, rfl⟩ : packedV (b.take (4 * w)) w = v ∧ b.drop (4 * w) = r := by simpa using h
    exact List.drop_suffix _ _
  · cases h
theorem widS_suf (n fr : Int) : ∀ (k i : Nat) (b : List Int), SufS (widS n fr k i b) b
  | 0, i, b => SufS.ok _ _
  | k + 1, i, b => by
    rw [widS]
    refine SufS.and (byteS_suf b) fun v r _ => ?_
    split
    · exact SufS.and (widS_suf n fr k _ r) fun v r _ => SufS.ok _ _
    · exact SufS.err _ _
theorem partsS_suf (n fr least : Int) : ∀ (ws : List Int) (i : Nat) (l b : List Int), SufS (partsS n fr least ws i l b) b
  | [], i, l, b => SufS.ok _ _
  | w :: ws, i, l, b => by
    rw [partsS]
    split
    · exact SufS.ok _ _
    · exact SufS.and (packedS_suf _ b) fun v r _ => partsS_suf n fr least ws _ _ r
theorem loopS_suf (n : Int) : ∀ (k : Nat) (fr : Int) (l b : List Int), SufS (loopS n k fr l b) b
  | 0, fr, l, b => SufS.ok _ _
  | k + 1, fr, l, b => by
    rw [loopS]
    split
    · exact SufS.and (SufS.map (numS_suf b _ _)) fun v r _ => SufS.and (widS_suf n fr 4 0 r) fun v2 r2 _ => SufS.and (partsS_suf _ _ _ _ _ _ r2) fun v3 r3 _ => loopS_suf n k _ _ r3
    · exact SufS.ok _ _
theorem tailS_suf (b : List Int) : SufS (tailS b) b := by
  unfold tailS
  refine SufS.and (numS_suf b _ _) fun v r _ => ?_
  split
  · refine SufS.and (SufS.map (numS_suf r _ _)) fun v2 r2 _ => ?_
    split
    · split
      · exact SufS.ok _ _
      · exact loopS_suf _ _ _ _ r2
    · exact SufS.err _ _
  · exact SufS.err _ _
theorem listS_suf (b : List Int) : SufS (listS b) b := by
  unfold listS wantS
  refine SufS.and (numS_suf b _ _) fun v r _ => ?_
  split
  · refine SufS.and (numS_suf r _ _) fun v2 r2 _ => ?_
    split
    · exact tailS_suf r2
    · exact SufS.err _ _
  · exact SufS.err _ _
theorem partsS_len (n fr least : Int) : ∀ (ws : List Int) (i : Nat) (l b : List Int) (l' r : List Int), (l.length : Int) ≤ n → partsS n fr least ws i l b = .ok (l', r) → (l'.length : Int) ≤ n
  | [], i, l, b, l', r, hl, h => by
    obtain ⟨rfl, _⟩ : l = l' ∧ b = r := by simpa [partsS] using h
    exact hl
  | w :: ws, i, l, b, l', r, hl, h => by
    rw [partsS] at h
    split at h
    · obtain ⟨rfl, _⟩ : l = l' ∧ b = r := by simpa using h
      exact hl
    · cases hp : packedS w.toNat b with
      | error x => rw [hp, andS_err] at h; cases h
      | ok p =>
        rw [hp, andS_ok] at h
        exact partsS_len n fr least ws _ _ _ l' r (addS_length n least p.1 l hl).1 h
theorem loopS_len (n : Int) : ∀ (k : Nat) (fr : Int) (l b : List Int) (l' r : List Int), (l.length : Int) ≤ n → loopS n k fr l b = .ok (l', r) → (l'.length : Int) ≤ n
  | 0, fr, l, b, l', r, hl, h => by
    obtain ⟨rfl, _⟩ : l = l' ∧ b = r := by simpa [loopS] using h
    exact hl
  | k + 1, fr, l, b, l', r, hl, h => by
    rw [loopS] at h
    split at h
    · cases h1 : mapS sgnV (numS 0 0 b) with
      | error x => rw [h1, andS_err] at h; cases h
      | ok p1 =>
        rw [h1, andS_ok] at h
        cases h2 : widS n fr 4 0 p1.2 with
        | error x => rw [h2, andS_err] at h; cases h
        | ok p2 =>
          rw [h2, andS_ok] at h
          cases h3 : partsS n fr p1.1 p2.1 0 l p2.2 with
          | error x => rw [h3, andS_err] at h; cases h
          | ok p3 =>
            rw [h3, andS_ok] at h
            exact loopS_len n k _ p3.1 p3.2 l' r (partsS_len n fr _ _ _ _ _ _ _ hl h3) h
    · obtain ⟨rfl, _⟩ : l = l' ∧ b = r := by simpa using h
      exact hl
theorem tailS_len {b l r : List Int} (h : tailS b = .ok (l, r)) : l.length ≤ 65536 := by
  unfold tailS at h
  cases h1 : numS 0 0 b with
  | error x => rw [h1, andS_err] at h; cases h
  | ok p1 =>
    rw [h1, andS_ok] at h
    split at h
    · rename_i hm
      cases h2 : mapS sgnV (numS 0 0 p1.2) with
      | error x => rw [h2, andS_err] at h; cases h
      | ok p2 =>
        rw [h2, andS_ok] at h
        split at h
        · split at h
          · obtain ⟨rfl, _⟩ : [] = l ∧ p2.2 = r := by simpa using h
            simp
          · rename_i h0
            have hr := numS_range _ _ _ _ _ h1
            have := loopS_len p1.1 513 1 [p2.1] p2.2 l r (by simp; omega) h
            omega
        · cases h
    · cases h
theorem listS_len {b l r : List Int} (h : listS b = .ok (l, r)) : l.length ≤ 65536 := by
  unfold listS wantS at h
  cases h1 : numS 0 0 b with
  | error x => rw [h1, andS_err] at h; cases h
  | ok p1 =>
    rw [h1, andS_ok] at h
    split at h
    · dsimp only at h
      cases h2 : numS 0 0 p1.2 with
      | error x => rw [h2, andS_err] at h; cases h
      | ok p2 =>
        rw [h2, andS_ok] at h
        split at h
        · exact tailS_len h
        · cases h
    · cases h
def beginF (k : Nat) (b : List Int) : Option (List Int × Int × Int) :=
  match listS b with
  | .error x => some ([], 0, x)
  | .ok (l, r) => (writeB k l).bind fun a => (bytes_Equal.f a (b.take (b.length - r.length))).bind fun q => if q = true then some (l, ((b.length - r.length : Nat) : Int), 0) else some ([], 0, 8)
end Go.Proofs.Ytcdephhplmcmjaa.X
end

section
namespace Go.Proofs.Ytcdephhplmcmjaa.X
open Go.RowKit Go.Proofs.YtcdephhplmcmjaaW.PrintWords Go.Proofs.YtcdephhplmcmjaaW.PrintLast Go.Proofs.YtcdephhplmcmjaaW.PrintMore
set_option linter.unusedVariables false
set_option linter.unusedSimpArgs false
def BeE (w0 : World) (l : List Int) (n x : Int) (e : Ending) (w : World) : Prop :=
  ∃ lv, e = .returned (.tuple #[lv, .int .i64 n, .int .i64 x]) ∧ w.ownsRow w0.heap.size 2 1 lv l.length (nums .i64 l) ∧ Below w0.heap.size w0 w
theorem be_results (tmps : Array Value) (w : World) (g : Nat) (A : Option Addr) (m c : Nat) (n x : Int) (h2 : tmps.getD 2 undef = .pointer (some ⟨g, 0, none⟩)) (h3 : tmps.getD 3 undef = .pointer (some ⟨g + 1, 0, none⟩)) (h4 : tmps.getD 4 undef = .pointer (some ⟨g + 2, 0, none⟩))
    (k2 : w.heap[g]? = some (.cells #[.slice A m c] 44 (0, 0))) (k3 : w.heap[g + 1]? = some (.cells #[.int .i64 n] 3 (0, 0))) (k4 : w.heap[g + 2]? = some (.cells #[.int .i64 x] 26 (0, 0))) :
    (results Try.f71 tmps).run Try.prog w = .ok (.tuple #[.slice A m c, .int .i64 n, .int .i64 x]) w := by
  have h2' : tmps[2]?.getD undef = .pointer (some ⟨g, 0, none⟩) := by simpa using h2
  have h3' : tmps[3]?.getD undef = .pointer (some ⟨g + 1, 0, none⟩) := by simpa using h3
  have h4' : tmps[4]?.getD undef = .pointer (some ⟨g + 2, 0, none⟩) := by simpa using h4
  have c2 : w.cell? ⟨g, 0, none⟩ = some (.slice A m c) := blk_cell k2 0
  have c3 : w.cell? ⟨g + 1, 0, none⟩ = some (.int .i64 n) := blk_cell k3 0
  have c4 : w.cell? ⟨g + 2, 0, none⟩ = some (.int .i64 x) := blk_cell k4 0
  have r2 : (loadVar 44 ⟨g, 0, none⟩).run Try.prog w = .ok (.slice A m c) w := by
    simp [loadVar, isAgg, Sem.run_bind, run_underlying Try.underlying44, c2, go_sem]
  have r3 : (loadVar 3 ⟨g + 1, 0, none⟩).run Try.prog w = .ok (.int .i64 n) w := by
    simp [loadVar, isAgg, Sem.run_bind, run_underlying Try.underlying3, c3, go_sem]
  have r4 : (loadVar 26 ⟨g + 2, 0, none⟩).run Try.prog w = .ok (.int .i64 x) w := by
    simp [loadVar, isAgg, Sem.run_bind, run_underlying Try.underlying26, c4, go_sem]
  simp [results, Try.results71, h2', h3', h4', asAddr, r2, r3, r4]
structure BeB (w0 : World) (lv : Value) (n x : Int) (w : World) : Prop where
  hb : Below w0.heap.size w0 w
  h0 : w.heap[w0.heap.size]? = some (.cells #[lv] 44 (0, 0))
  h1 : w.heap[w0.heap.size + 1]? = some (.cells #[.int .i64 n] 3 (0, 0))
  h2 : w.heap[w0.heap.size + 2]? = some (.cells #[.int .i64 x] 26 (0, 0))
def beDef (w0 : World) : List Deferred := [{ target := .fn (.func 76) #[.pointer (some ⟨w0.heap.size, 0, none⟩), .pointer (some ⟨w0.heap.size + 1, 0, none⟩), .pointer (some ⟨w0.heap.size + 1 + 1, 0, none⟩)], args := #[] }]
theorem be_giveup {w0 w1 : World} {why n x : Int} {lv : Value} (tmps : Array Value) (h2 : tmps.getD 2 undef = .pointer (some ⟨w0.heap.size, 0, none⟩)) (h3 : tmps.getD 3 undef = .pointer (some ⟨w0.heap.size + 1, 0, none⟩)) (h4 : tmps.getD 4 undef = .pointer (some ⟨w0.heap.size + 1 + 1, 0, none⟩)) (hB : BeB w0 lv n x w1) :
    bodyPostD Try.prog Try.f71 (BeE w0 [] 0 why) (Exit.panic (failP why)) { tmps := tmps, defers := beDef w0 } w1 := by
  unfold bodyPostD beDef
  refine leaves_cons (f := 76) (args := #[.pointer (some ⟨w0.heap.size, 0, none⟩), .pointer (some ⟨w0.heap.size + 1, 0, none⟩), .pointer (some ⟨w0.heap.size + 1 + 1, 0, none⟩)]) (by simp) (by simp [go_sem]) ?_
  refine (begin_yes w0.heap.size _ _ _ _ _ _ why w1 hB.h0 hB.h1 hB.h2).mono ?_
  rintro e u' w' ⟨⟨v, rfl⟩, rfl, hb, k0, k1, k2⟩
  exact ⟨_, be_results tmps _ _ _ _ _ _ _ h2 h3 h4 k0 k1 k2, _, rfl, World.ownsRow_nil _ _ _ _, hB.hb.trans hb⟩
theorem be_done {w0 w1 : World} {n : Int} {A : Option Addr} {c : Nat} {l : List Int} (tmps : Array Value) (h2 : tmps.getD 2 undef = .pointer (some ⟨w0.heap.size, 0, none⟩)) (h3 : tmps.getD 3 undef = .pointer (some ⟨w0.heap.size + 1, 0, none⟩)) (h4 : tmps.getD 4 undef = .pointer (some ⟨w0.heap.size + 1 + 1, 0, none⟩)) (hB : BeB w0 (.slice A l.length c) n 0 w1)
    (ho : w1.ownsRow w0.heap.size 2 1 (.slice A l.length c) l.length (nums .i64 l)) :
    bodyPostD Try.prog Try.f71 (BeE w0 l n 0) Exit.ret { tmps := tmps, defers := beDef w0 } w1 := by
  unfold bodyPostD beDef
  refine leaves_cons (f := 76) (args := #[.pointer (some ⟨w0.heap.size, 0, none⟩), .pointer (some ⟨w0.heap.size + 1, 0, none⟩), .pointer (some ⟨w0.heap.size + 1 + 1, 0, none⟩)]) (by simp) (by simp [go_sem]) ?_
  refine (begin_no ⟨w0.heap.size, 0, none⟩ ⟨w0.heap.size + 1, 0, none⟩ ⟨w0.heap.size + 1 + 1, 0, none⟩ w1).mono ?_
  rintro e u' w' ⟨⟨v, rfl⟩, rfl, rfl⟩
  exact ⟨_, be_results tmps _ _ _ _ _ _ _ h2 h3 h4 hB.h0 hB.h1 hB.h2, _, rfl, ho, hB.hb⟩
theorem be_start (w : World) (A : Option Addr) (b : List Int) (c : Nat) : BeB w (.slice none 0 0) 0 0 ((((w.alloc (.cells #[.slice none 0 0] 44)).alloc (.cells #[.int .i64 0] 3)).alloc (.cells #[.int .i64 0] 26)).alloc (.cells #[.slice A b.length c] 116)) := by
  refine ⟨below_alloc (below_alloc (below_alloc (below_alloc (Below.refl _ _) _) _) _) _, blk_alloc (blk_alloc (blk_alloc (blk_new _ _) _) _) _, blk_alloc (blk_alloc ?_ _) _, blk_alloc ?_ _⟩
  · have := blk_new (w.alloc (.cells #[.slice none 0 0] 44)) (.cells #[.int .i64 0] 3)
    rwa [World.size_alloc] at this
  · have := blk_new ((w.alloc (.cells #[.slice none 0 0] 44)).alloc (.cells #[.int .i64 0] 3)) (.cells #[.int .i64 0] 26)
    rwa [World.size_alloc, World.size_alloc] at this
theorem be_reader (w : World) (A : Option Addr) (b : List Int) (c : Nat) (hC : Kd.C (Kd.int .u8) w A b.length b) (hc : b.length ≤ c) (hu : ∀ x ∈ b, 0 ≤ x ∧ x ≤ 255) : RdI w (w.heap.size + 3) b ((((w.alloc (.cells #[.slice none 0 0] 44)).alloc (.cells #[.int .i64 0] 3)).alloc (.cells #[.int .i64 0] 26)).alloc (.cells #[.slice A b.length c] 116)) := by
  refine ⟨A, c, ?_, hC, hc, (be_start w A b c).hb, by omega, hu⟩
  have := blk_new (((w.alloc (.cells #[.slice none 0 0] 44)).alloc (.cells #[.int .i64 0] 3)).alloc (.cells #[.int .i64 0] 26)) (.cells #[.slice A b.length c] 116)
  rwa [World.size_alloc, World.size_alloc, World.size_alloc] at this
theorem BeB.set0 {w0 w : World} {lv v : Value} {n x : Int} (h : BeB w0 lv n x w) : BeB w0 v n x (w.setCell ⟨w0.heap.size, 0, none⟩ v) :=
  ⟨h.hb.setCell (by simp) _, blk_set h.h0 0 _, blk_far h.h1 (p := ⟨w0.heap.size, 0, none⟩) (by simp) _, blk_far h.h2 (p := ⟨w0.heap.size, 0, none⟩) (by simp) _⟩
theorem BeB.set1 {w0 w : World} {lv : Value} {n m x : Int} (h : BeB w0 lv n x w) : BeB w0 lv m x (w.setCell ⟨w0.heap.size + 1, 0, none⟩ (.int .i64 m)) :=
  ⟨h.hb.setCell (by simp) _, blk_far h.h0 (p := ⟨w0.heap.size + 1, 0, none⟩) (by simp) _, blk_set h.h1 0 _, blk_far h.h2 (p := ⟨w0.heap.size + 1, 0, none⟩) (by simp) _⟩
theorem BeB.set2 {w0 w : World} {lv : Value} {n x y : Int} (h : BeB w0 lv n x w) : BeB w0 lv n y (w.setCell ⟨w0.heap.size + 1 + 1, 0, none⟩ (.int .i64 y)) :=
  ⟨h.hb.setCell (by simp; omega) _, blk_far h.h0 (p := ⟨w0.heap.size + 1 + 1, 0, none⟩) (by simp; omega) _, blk_far h.h1 (p := ⟨w0.heap.size + 1 + 1, 0, none⟩) (by simp) _, blk_set h.h2 0 _⟩
theorem BeB.grow {w0 w w' : World} {lv : Value} {n x : Int} (h : BeB w0 lv n x w) (hb : Below w.heap.size w w') : BeB w0 lv n x w' :=
  ⟨h.hb.trans (hb.mono h.hb.size), blk_below h.h0 hb, blk_below h.h1 hb, blk_below h.h2 hb⟩
theorem BeB.reader {w0 w w' : World} {lv : Value} {n x : Int} (h : BeB w0 lv n x w) (hg : w.grownBy w' (some (w0.heap.size + 3))) (hb : Below w0.heap.size w0 w') : BeB w0 lv n x w' :=
  ⟨hb, blk_grown h.h0 hg (by simp), blk_grown h.h1 hg (by simp), blk_grown h.h2 hg (by simp)⟩
theorem be_held {w0 w : World} {lv : Value} {n x : Int} (h : BeB w0 lv n x w) : w.cell? ⟨w0.heap.size, 0, none⟩ = some lv ∧ w.cell? ⟨w0.heap.size + 1, 0, none⟩ = some (.int .i64 n) := ⟨blk_cell h.h0 0, blk_cell h.h1 0⟩
theorem BeB.drewB {w0 w : World} {lv : Value} {n x : Int} (h : BeB w0 lv n x w) : BeB w0 lv n x w.drew := ⟨below_drew1 h.hb, h.h0, h.h1, h.h2⟩
theorem wp_shut {P : Program} {K : Act → World → Prop} {Q : Exit → Act → World → Prop} {c : Code} {a : Act} {w : World} (h : c.wp P (Exit.then K (fun _ _ _ => False)) a w) : c.wp P (Exit.then K Q) a w :=
  wpIn_wide.1 (shut_then (n := 0) (wpIn_wide.2 h))
set_option maxRecDepth 100000 in
set_option maxHeartbeats 8000000 in
theorem be_main (k : Nat) (A : Option Addr) (c : Nat) (b l : List Int) (n x : Int) (w : World) (hC : Kd.C (Kd.int .u8) w A b.length b) (hc : b.length ≤ c) (hu : ∀ x ∈ b, 0 ≤ x ∧ x ≤ 255) (h : beginF k b = some (l, n, x)) :
    Calls Try.prog 71 #[.slice A b.length c] w (BeE w l n x) := by
  have hmf : ∀ (fn : Fn) (first cap : Array Value) (w : World), (Instr.makeFunc fn first cap).run Try.prog w = .ok (.func fn first cap) w := fun _ _ _ _ => rfl
  have MO := Aside0.mk (fun why W => dr_must_ok why W)
  have MN := Aside0.mk (fun why W => dr_must_no why W)
  have HC := Aside0.mk hC
  have hbl : b.length ≤ 9223372036854775807 := hC.2.1
  have HI := Aside0.mk (be_reader w A b c hC hc hu)
  have HB0 := Aside0.mk (be_start w A b c)
  have HF := Aside0.mk h
  clear hC hu h
  go_enter_defers Try.func71, Try.ntmps71
  go_wp2_with fail
  refine calls_namedW fun W4 hW4 => ?_
  have HI4 := Aside0.mk (show RdI w (w.heap.size + 3) b W4 from (by rw [hW4]; exact HI.out))
  have HB4 := Aside0.mk (show BeB w (.slice none 0 0) 0 0 W4 from (by rw [hW4]; exact HB0.out))
  clear hW4 HI HB0
  refine (dr_list w (w.heap.size + 3) b W4 HI4.out).mono ?_
  rintro e W5 ⟨hb5, hg5, h5⟩
  have HB5 := Aside0.mk (HB4.out.reader hg5 hb5)
  have HSZ4 := Aside0.mk HB4.out.hb.size
  clear hb5 hg5 HI4 HB4
  have hF := HF.out
  unfold beginF at hF
  cases hr : listS b with
  | error y =>
    rw [hr] at h5 hF
    have h5 : e = .panicked (failP y) := h5
    subst h5
    obtain ⟨rfl, rfl, rfl⟩ : [] = l ∧ 0 = n ∧ y = x := by simpa using hF
    exact be_giveup _ rfl rfl rfl HB5.out
  | ok p =>
    obtain ⟨l1, r1⟩ := p
    rw [hr] at h5 hF
    obtain ⟨lv, h51, h52, h53⟩ : ∃ lv, e = .returned lv ∧ RdI w (w.heap.size + 3) r1 W5 ∧ W5.ownsRow W4.heap.size 2 1 lv l1.length (nums .i64 l1) := h5
    subst h51
    obtain ⟨Al, cl, rfl⟩ := own_formD h53
    obtain ⟨a, ha, hF2⟩ := Option.bind_eq_some_iff.1 hF
    clear hF
    obtain ⟨q, hq, hF⟩ := Option.bind_eq_some_iff.1 hF2
    clear hF2
    have hll := listS_len hr
    have hrl : r1.length ≤ b.length := (listS_suf b _ _ hr).length_le
    have HO5 := Aside0.mk (own_monoW h53 HSZ4.out)
    obtain ⟨Ar, cr, hrd, hrC, hrc, hz1, hz2, hz3⟩ := h52
    have c0 : W5.cell? ⟨w.heap.size, 0, none⟩ = some (.slice none 0 0) := blk_cell HB5.out.h0 0
    have f0 : W5.frozen? ⟨w.heap.size, 0, none⟩ = false := blk_frozen HB5.out.h0 0
    have HB6 := Aside0.mk (HB5.out.set0 (v := .slice Al l1.length cl))
    have ho6 := own_setCell HO5.out (own_ne HO5.out HB5.out.h0 (by decide)) (p := ⟨w.heap.size, 0, none⟩) (.slice Al l1.length cl)
    have hrd6 := blk_far hrd (p := ⟨w.heap.size, 0, none⟩) (by simp) (.slice Al l1.length cl)
    have c3 : (W5.setCell ⟨w.heap.size, 0, none⟩ (.slice Al l1.length cl)).cell? ⟨w.heap.size + 1 + 1 + 1, 0, none⟩ = some (.slice Ar r1.length cr) := blk_cell hrd6 0
    have c1 : (W5.setCell ⟨w.heap.size, 0, none⟩ (.slice Al l1.length cl)).cell? ⟨w.heap.size + 1, 0, none⟩ = some (.int .i64 0) := blk_cell HB6.out.h1 0
    have f1 : (W5.setCell ⟨w.heap.size, 0, none⟩ (.slice Al l1.length cl)).frozen? ⟨w.heap.size + 1, 0, none⟩ = false := blk_frozen HB6.out.h1 0
    obtain ⟨m, hm⟩ : ∃ m, m = b.length - r1.length := ⟨_, rfl⟩
    have hwm : IntKind.i64.wrap ((b.length : Int) - (r1.length : Int)) = (m : Int) := by rw [IntWalk.i64_in _ (by omega)]; omega
    have hsub : (b.length : Int) - (r1.length : Int) = (m : Int) := by omega
    rw [← hm] at hq hF
    have HM := Aside0.mk (show m ≤ b.length by omega)
    have HFF := Aside0.mk hF
    have HQ := Aside0.mk hq
    have HWA := Aside0.mk ha
    clear h53 hrd hrC hrc hz1 hz2 hz3 hrd6 hF hq ha hr HB5 HF hrl hm
    have HO7 := Aside0.mk (own_setCell ho6 (own_ne ho6 HB6.out.h1 (by decide)) (p := ⟨w.heap.size + 1, 0, none⟩) (.int .i64 (m : Int)))
    clear ho6
    go_wp2_with fail
    refine calls_namedW fun W7 hW7 => ?_
    have HB7 := Aside0.mk (show BeB w (.slice Al l1.length cl) m 0 W7 from (by rw [hW7]; exact HB6.out.set1))
    have HP7 := Aside0.mk (show W7.ownsRow w.heap.size 2 1 (.slice Al l1.length cl) l1.length (nums .i64 l1) from (by rw [hW7]; exact HO7.out))
    clear hW7 HB6 HO7 HO5 c0 f0 c1 f1 c3
    obtain ⟨hk1, hk2, hk3⟩ := Kd.R_reads' (Kd.R_of_own (enc := Value.int .i64) (h1 := fun _ => rfl) (ok := fun _ => True) HP7.out (fun _ _ => trivial))
    refine (write_calls k Al cl l1 a W7 hk3 hk2 hll HWA.out).mono ?_
    clear hk1 hk2 hk3
    rintro e W8 ⟨va, rfl, ho8, hb8⟩
    obtain ⟨Av, cv, rfl⟩ := own_formD ho8
    have HB8 := Aside0.mk (HB7.out.grow hb8)
    have HL8 := Aside0.mk (own_belowW HP7.out hb8)
    have HA8 := Aside0.mk (own_monoW ho8 HB7.out.hb.size)
    have c2 : W8.cell? ⟨w.heap.size + 1 + 1, 0, none⟩ = some (.int .i64 0) := blk_cell HB8.out.h2 0
    have f2 : W8.frozen? ⟨w.heap.size + 1 + 1, 0, none⟩ = false := blk_frozen HB8.out.h2 0
    have HB9 := Aside0.mk (HB8.out.set2 (y := 0))
    have HL9 := Aside0.mk (own_setCell HL8.out (own_ne HL8.out HB8.out.h2 (by decide)) (p := ⟨w.heap.size + 1 + 1, 0, none⟩) (.int .i64 0))
    have HA9 := Aside0.mk (own_setCell HA8.out (own_ne HA8.out HB8.out.h2 (by decide)) (p := ⟨w.heap.size + 1 + 1, 0, none⟩) (.int .i64 0))
    have d2 : (W8.setCell ⟨w.heap.size + 1 + 1, 0, none⟩ (.int .i64 0)).cell? ⟨w.heap.size + 1 + 1, 0, none⟩ = some (.int .i64 0) := blk_cell HB9.out.h2 0
    have d1 : (W8.setCell ⟨w.heap.size + 1 + 1, 0, none⟩ (.int .i64 0)).cell? ⟨w.heap.size + 1, 0, none⟩ = some (.int .i64 (m : Int)) := blk_cell HB9.out.h1 0
    obtain ⟨i0, hi0, _, hsz, _⟩ := info_parts info5
    obtain ⟨htake, hTd, hT1⟩ := print_take_of (P := Try.prog) (Value.int .u8) 0 25 5 .i64 Try.underlying25 hi0 hsz A c b m (by omega) (by have := HM.out; omega) hc
    rw [Int.toNat_natCast] at htake hTd hT1
    obtain ⟨bt, hbt⟩ : ∃ bt, bt = b.take m := ⟨_, rfl⟩
    rw [← hbt] at htake hTd hT1 HQ
    have HT9 := Aside0.mk (show Kd.C (Kd.int .u8) (W8.setCell ⟨w.heap.size + 1 + 1, 0, none⟩ (.int .i64 0)) A bt.length bt from Kd.C_of_reads (h1 := fun _ => rfl) (hTd _ (Kd.reads_of_C (Kd.C_below HC.out HB9.out.hb))))
    have HT1 := Aside0.mk hT1
    have HBT := Aside0.mk hbt
    clear ho8 hb8 hTd hT1 hbt HB7 HP7 HL8 HA8
    go_wp2_with fail
    refine calls_namedW fun W9 hW9 => ?_
    rw [← hW9] at HB9 HL9 HA9 HT9
    obtain ⟨hk1, hk2, hk3⟩ := Kd.R_reads' (Kd.R_of_own (enc := Value.int .u8) (h1 := fun _ => rfl) (ok := fun _ => True) HA9.out (fun _ _ => trivial))
    refine (bytes_Equal.calls Av cv a A c bt q W9 hk3 hk2 HT9.out HT1.out HQ.out).mono ?_
    clear hk1 hk2 hk3 hW9 c2 f2 d1 d2 htake hwm hsub
    rintro e W10 ⟨rfl, ⟨nd, hnd⟩⟩
    have HBa := Aside0.mk (show BeB w (.slice Al l1.length cl) m 0 W10 from (by rw [hnd]; exact ⟨pw_below_drewN HB9.out.hb _, HB9.out.h0, HB9.out.h1, HB9.out.h2⟩))
    have HLa := Aside0.mk (show W10.ownsRow w.heap.size 2 1 (.slice Al l1.length cl) l1.length (nums .i64 l1) from (by rw [hnd]; exact HL9.out))
    clear hnd HB9 HL9 HA9 HT9 HB8
    have hF := HFF.out
    cases q with
    | false =>
      obtain ⟨rfl, rfl, rfl⟩ : [] = l ∧ 0 = n ∧ 8 = x := by simpa using hF
      clear HFF hF
      go_wp2_with fail
      refine (MN.out _ _).mono ?_
      rintro e W11 ⟨rfl, hx⟩
      have hx := hx.symm
      subst hx
      exact be_giveup _ rfl rfl rfl HBa.out
    | true =>
      obtain ⟨rfl, rfl, rfl⟩ : l1 = l ∧ (m : Int) = n ∧ 0 = x := by simpa using hF
      clear HFF hF
      go_wp2_with fail
      refine (MO.out _ _).mono ?_
      rintro e W11 ⟨⟨v2, rfl⟩, hx⟩
      have hx := hx.symm
      subst hx
      go_wp2_with fail
      refine wp_shut ?_
      refine wp_region_held_drew (S := fun w' => w'.cell? ⟨w.heap.size, 0, none⟩ = some (.slice Al l1.length cl) ∧ w'.cell? ⟨w.heap.size + 1, 0, none⟩ = some (.int .i64 (m : Int))) (by kernel_rfl) (be_held (HBa.out.drewB)) (fun hHeld => ?_)
      refine anyH_named fun w3 hw3 => ?_
      have HB3 := Aside0.mk (show BeB w (.slice Al l1.length cl) m 0 w3 from (by rw [hw3]; exact HBa.out.drewB))
      have HL3 := Aside0.mk (show w3.ownsRow w.heap.size 2 1 (.slice Al l1.length cl) l1.length (nums .i64 l1) from (by rw [hw3]; exact HLa.out))
      have HBs0 := Aside0.mk (HB3.out.set0 (v := .slice Al l1.length cl))
      have HBs1 := Aside0.mk (HBs0.out.set1 (m := m))
      have HBs2 := Aside0.mk (HBs1.out.set2 (y := 0))
      have ho0 := own_setCell HL3.out (own_ne HL3.out HB3.out.h0 (by decide)) (p := ⟨w.heap.size, 0, none⟩) (.slice Al l1.length cl)
      have ho1 := own_setCell ho0 (own_ne ho0 HBs0.out.h1 (by decide)) (p := ⟨w.heap.size + 1, 0, none⟩) (.int .i64 (m : Int))
      have HLs := Aside0.mk (own_setCell ho1 (own_ne ho1 HBs1.out.h2 (by decide)) (p := ⟨w.heap.size + 1 + 1, 0, none⟩) (.int .i64 0))
      have hHeld2 := be_held HB3.out
      clear hHeld
      have hHeld := hHeld2
      clear hHeld2
      have c0 : w3.cell? ⟨w.heap.size, 0, none⟩ = some (.slice Al l1.length cl) := blk_cell HB3.out.h0 0
      have f0 : w3.frozen? ⟨w.heap.size, 0, none⟩ = false := blk_frozen HB3.out.h0 0
      have d1 := blk_cell HBs0.out.h1 0
      have f1 := blk_frozen HBs0.out.h1 0
      have d2 := blk_cell HBs1.out.h2 0
      have f2 := blk_frozen HBs1.out.h2 0
      clear hw3 ho0 ho1 HBa HLa
      refine wpAnyH_take (i := 0) (oi := { dst := some 36, op := Op.load 44 (Operand.tmp 2), type := 44, pos := "delta.go:222", after := #[], guard := none }) (v := .slice Al l1.length cl) rfl (by kernel_rfl) (by kernel_rfl) (by kernel_rfl) (fun _ _ _ h => h) (Or.inl ⟨by rfl, ?_⟩) (by assumption) ?_
      · (intro w hSw; (try dsimp only at hSw); go_simp)
      try simp only [Act.put, List.setIfInBounds_toArray, List.set_cons_zero, List.set_cons_succ]
      refine wpAnyH_take (i := 1) (oi := { dst := some 37, op := Op.load 3 (Operand.tmp 3), type := 3, pos := "delta.go:222", after := #[], guard := none }) (v := .int .i64 (m : Int)) rfl (by kernel_rfl) (by kernel_rfl) (by kernel_rfl) (fun _ _ _ h => h) (Or.inl ⟨by rfl, ?_⟩) (by assumption) ?_
      · (intro w hSw; (try dsimp only at hSw); go_simp)
      try simp only [Act.put, List.setIfInBounds_toArray, List.set_cons_zero, List.set_cons_succ]
      refine wpAnyH_ready (rs := [2]) (by kernel_rfl) (by simp) ?_
      refine AllReadyH.cons (o := { dst := none, op := Op.store 44 (Operand.tmp 2) (Operand.tmp 36), type := 0, pos := "delta.go:222", after := #[{ on := 0, ground := Ground.data }, { on := 0, ground := Ground.phase }, { on := 1, ground := Ground.textOnly Departure.lateStoresUnsure }], guard := none }) rfl (fun K hK => ?_) ?_
      · go_simp
        refine hK.out _ _ (be_held HBs0.out) (fun hHeld2 => ?_)
        clear hK K hHeld
        have hHeld := hHeld2
        clear hHeld2
        try simp only [Act.put, List.setIfInBounds_toArray, List.set_cons_zero, List.set_cons_succ]
        refine wpAnyH_ready (rs := [3]) (by kernel_rfl) (by simp) ?_
        refine AllReadyH.cons (o := { dst := none, op := Op.store 3 (Operand.tmp 3) (Operand.tmp 37), type := 0, pos := "delta.go:222", after := #[{ on := 1, ground := Ground.data }, { on := 2, ground := Ground.chain }, { on := 0, ground := Ground.phase }, { on := 1, ground := Ground.phase }, { on := 2, ground := Ground.phase }], guard := none }) rfl (fun K hK => ?_) ?_
        · go_simp
          refine hK.out _ _ (be_held HBs1.out) (fun hHeld2 => ?_)
          clear hK K hHeld
          have hHeld := hHeld2
          clear hHeld2
          try simp only [Act.put, List.setIfInBounds_toArray, List.set_cons_zero, List.set_cons_succ]
          refine wpAnyH_ready (rs := [4]) (by kernel_rfl) (by simp) ?_
          refine AllReadyH.cons (o := { dst := none, op := Op.store 26 (Operand.tmp 4) (Operand.const (Value.int IntKind.i64 0)), type := 0, pos := "delta.go:222", after := #[{ on := 3, ground := Ground.chain }, { on := 0, ground := Ground.phase }, { on := 1, ground := Ground.phase }, { on := 2, ground := Ground.phase }, { on := 3, ground := Ground.phase }], guard := none }) rfl (fun K hK => ?_) ?_
          · go_simp
            refine hK.out _ _ (be_held HBs2.out) (fun hHeld2 => ?_)
            clear hK K hHeld
            have hHeld := hHeld2
            clear hHeld2
            try simp only [Act.put, List.setIfInBounds_toArray, List.set_cons_zero, List.set_cons_succ]
            refine wpAnyH_done (by kernel_rfl) ?_ _
            go_wp2_with fail
            exact be_done _ rfl rfl rfl HBs2.out HLs.out
          exact AllReadyH.nil
        exact AllReadyH.nil
      exact AllReadyH.nil
end Go.Proofs.Ytcdephhplmcmjaa.X
end

section
namespace Go.Proofs.Ytcdephhplmcmjaa.X
open Go.RowKit Go.Proofs.YtcdephhplmcmjaaW.PrintWords Go.Proofs.YtcdephhplmcmjaaW.PrintLast Go.Proofs.YtcdephhplmcmjaaW.PrintMore
attribute [local go_sem] max2_int min2_int max_two min_two max_three min_three max_four min_four
set_option linter.unusedVariables false
set_option linter.unusedSimpArgs false
def u8All (l : List Int) : Bool := l.all fun x => decide (0 ≤ x) && decide (x ≤ 255)
theorem u8All_iff {l : List Int} : u8All l = true ↔ ∀ x ∈ l, 0 ≤ x ∧ x ≤ 255 := by simp [u8All]
def delta_Begin.f (k : Nat) (l0 : List Int) : Option (List Int × Int × Int) := if u8All l0 = true then beginF k l0 else none
theorem beginF_mono (k : Nat) (l : List Int) : LeO (beginF k l) (beginF (k + 1) l) := by
  unfold beginF
  cases listS l with
  | error x => exact LeO.refl _
  | ok p => exact LeO.bind (writeB_mono k p.1) (fun a => LeO.refl _)
theorem delta_Begin.mono : ∀ l0 k, LeO (delta_Begin.f k l0) (delta_Begin.f (k + 1) l0) := by
  intro l0 k
  unfold delta_Begin.f
  exact LeO.ite (beginF_mono k l0) (LeO.refl _)
theorem delta_Begin.calls (k : Nat) (A0 : Option Addr) (c0 : Nat) (l0 : List Int) (r1 : List Int) (r2 r3 : Int) (w : World) (hr0 : Kd.C (Kd.int .u8) w A0 l0.length l0) (hc0 : l0.length ≤ c0) (h : delta_Begin.f k l0 = some (r1, r2, r3)) :
    Calls Try.prog 71 #[.slice A0 l0.length c0] w fun e w' => ∃ v0_ : Value, e = .returned (.tuple #[v0_, .int .i64 r2, .int .i64 r3]) ∧ Kd.R (Kd.int .i64) 2 w' w.heap.size (fun _ => True) v0_ r1 ∧ Below w.heap.size w w' := by
  unfold delta_Begin.f at h
  by_cases hu : u8All l0 = true
  · rw [if_pos hu] at h
    refine (be_main k A0 c0 l0 r1 r2 r3 w hr0 hc0 (u8All_iff.1 hu) h).mono ?_
    rintro e w' ⟨v, rfl, ho, hb⟩
    exact ⟨v, rfl, Kd.R_of_own (enc := Value.int .i64) (h1 := fun _ => rfl) ho (fun _ _ => trivial), hb⟩
  · rw [if_neg hu] at h; cases h
end Go.Proofs.Ytcdephhplmcmjaa.X
end

section
namespace Go.Proofs.Ytcdephhplmcmjaa.Nx
open Go.RowKit Go.Proofs.Ytcdephhplmcmjaa.Bx
theorem or_low_high (i : Nat) (x y : Int) (hx0 : 0 ≤ x) (hx : x < 2 ^ i) (hy0 : 0 ≤ y) (hy : y % 2 ^ i = 0) (hy1 : y < 18446744073709551616) (hx1 : x < 18446744073709551616) :
    bits .or .u64 x y = x + y := by
  have := bits_join .u64 64 (by decide) wraps_u64 i y x hy0 hy (by omega) hx0 hx (by omega)
  obtain ⟨a, rfl⟩ := Int.eq_ofNat_of_zero_le hx0
  obtain ⟨b, rfl⟩ := Int.eq_ofNat_of_zero_le hy0
  have c := (bits_nat .u64 64 (by decide) wraps_u64 a b (by omega) (by omega)).2
  have d := (bits_nat .u64 64 (by decide) wraps_u64 b a (by omega) (by omega)).2
  rw [Nat.or_comm] at c
  have : bits .or .u64 (a : Int) (b : Int) = bits .or .u64 (b : Int) (a : Int) := c.trans d.symm
  omega
end Go.Proofs.Ytcdephhplmcmjaa.Nx
end

section
namespace Go.Proofs.Ytcdephhplmcmjaa.Px
set_option linter.unusedVariables false
set_option linter.unusedSimpArgs false
open Go.RowKit Go.Proofs.Ytcdephhplmcmjaa.Bx Go.Proofs.Ytcdephhplmcmjaa.Nx
def bitsFrom (n : Int) : Nat → Nat → List Int
  | _, 0 => []
  | i, d + 1 => n / 2 ^ i % 2 :: bitsFrom n (i + 1) d
theorem bitsFrom_length (n : Int) : ∀ d i, (bitsFrom n i d).length = d
  | 0, _ => rfl
  | d + 1, i => by simp [bitsFrom, bitsFrom_length n d]
theorem bitsFrom_range (n : Int) : ∀ d i, ∀ b ∈ bitsFrom n i d, b = 0 ∨ b = 1
  | 0, _, b, h => by simp [bitsFrom] at h
  | d + 1, i, b, h => by
    simp only [bitsFrom, List.mem_cons] at h
    rcases h with rfl | h
    · omega
    · exact bitsFrom_range n d _ b h
def allBits (w : Nat) (l : List Int) : List Int := l.flatMap fun x => bitsFrom x 0 w
theorem allBits_cons (w : Nat) (x : Int) (l : List Int) : allBits w (x :: l) = bitsFrom x 0 w ++ allBits w l := by simp [allBits]
theorem allBits_length (w : Nat) : ∀ l, (allBits w l).length = l.length * w
  | [] => by simp [allBits]
  | x :: l => by rw [allBits_cons, List.length_append, bitsFrom_length, allBits_length w l, List.length_cons, Nat.add_mul]; omega
theorem allBits_range (w : Nat) (l : List Int) : ∀ b ∈ allBits w l, b = 0 ∨ b = 1 := by
  intro b h
  obtain ⟨x, _, hx⟩ := List.mem_flatMap.1 h
  exact bitsFrom_range x w 0 b hx
def byteAt (B : List Int) (j : Nat) : Int :=
  B.getD (8 * j) 0 + 2 * B.getD (8 * j + 1) 0 + 4 * B.getD (8 * j + 2) 0 + 8 * B.getD (8 * j + 3) 0 + 16 * B.getD (8 * j + 4) 0 + 32 * B.getD (8 * j + 5) 0 + 64 * B.getD (8 * j + 6) 0 + 128 * B.getD (8 * j + 7) 0
def packB (B : List Int) : List Int := (List.range ((B.length + 7) / 8)).map (byteAt B)
theorem packB_length (B : List Int) : (packB B).length = (B.length + 7) / 8 := by simp [packB]
theorem getD_snoc (B : List Int) (b : Int) (m : Nat) : (B ++ [b]).getD m 0 = if m = B.length then b else B.getD m 0 := by
  simp only [List.getD_eq_getElem?_getD]
  by_cases h : m = B.length
  · subst h; simp
  · rw [if_neg h]
    rcases Nat.lt_or_ge m B.length with h1 | h1
    · rw [List.getElem?_append_left h1]
    · rw [List.getElem?_append_right h1, List.getElem?_eq_none (by simp; omega), List.getElem?_eq_none h1]
theorem getD_out (B : List Int) {m : Nat} (h : B.length ≤ m) : B.getD m 0 = 0 := by
  rw [List.getD_eq_getElem?_getD, List.getElem?_eq_none h]; rfl
theorem getD_bit {B : List Int} (hB : ∀ b ∈ B, b = 0 ∨ b = 1) (m : Nat) : B.getD m 0 = 0 ∨ B.getD m 0 = 1 := by
  rw [List.getD_eq_getElem?_getD]
  by_cases h : m < B.length
  · rw [List.getElem?_eq_getElem h]; exact hB _ (List.getElem_mem h)
  · rw [List.getElem?_eq_none (by omega)]; exact .inl rfl
theorem byteAt_snoc (B : List Int) (b : Int) (j : Nat) : byteAt (B ++ [b]) j = byteAt B j + if j = B.length / 8 then b * 2 ^ (B.length % 8) else 0 := by
  unfold byteAt
  simp only [getD_snoc]
  by_cases h : j = B.length / 8
  · rw [if_pos h]
    have q : ∀ t, (8 * j + t = B.length) = (t = B.length % 8) := fun t => propext (by omega)
    have q0 : (8 * j = B.length) = (0 = B.length % 8) := propext (by omega)
    have o := fun m => getD_out B (m := m)
    have o0 := o (8 * j); have o1 := o (8 * j + 1); have o2 := o (8 * j + 2); have o3 := o (8 * j + 3); have o4 := o (8 * j + 4); have o5 := o (8 * j + 5); have o6 := o (8 * j + 6); have o7 := o (8 * j + 7)
    have hr : B.length % 8 = 0 ∨ B.length % 8 = 1 ∨ B.length % 8 = 2 ∨ B.length % 8 = 3 ∨ B.length % 8 = 4 ∨ B.length % 8 = 5 ∨ B.length % 8 = 6 ∨ B.length % 8 = 7 := by omega
    simp only [q, q0]
    rcases hr with e | e | e | e | e | e | e | e <;> rw [e] <;> simp (config := { decide := true }) only [if_true, if_false, Int.reducePow, Int.pow_zero] <;> omega
  · rw [if_neg h]
    have : ∀ t, t < 8 → 8 * j + t ≠ B.length := by omega
    rw [if_neg (by simpa using this 0 (by omega)), if_neg (this 1 (by omega)), if_neg (this 2 (by omega)), if_neg (this 3 (by omega)), if_neg (this 4 (by omega)), if_neg (this 5 (by omega)), if_neg (this 6 (by omega)), if_neg (this 7 (by omega))]
    omega
theorem byteAt_range {B : List Int} (hB : ∀ b ∈ B, b = 0 ∨ b = 1) (j : Nat) : 0 ≤ byteAt B j ∧ byteAt B j ≤ 255 := by
  unfold byteAt
  have g := getD_bit hB
  have g0 := g (8 * j); have g1 := g (8 * j + 1); have g2 := g (8 * j + 2); have g3 := g (8 * j + 3); have g4 := g (8 * j + 4); have g5 := g (8 * j + 5); have g6 := g (8 * j + 6); have g7 := g (8 * j + 7)
  omega
theorem byteAt_last {B : List Int} (hB : ∀ b ∈ B, b = 0 ∨ b = 1) : byteAt B (B.length / 8) < 2 ^ (B.length % 8) := by
  unfold byteAt
  have g := getD_bit hB
  have o := fun m => getD_out B (m := m)
  generalize hj : B.length / 8 = j
  have g0 := g (8 * j); have g1 := g (8 * j + 1); have g2 := g (8 * j + 2); have g3 := g (8 * j + 3); have g4 := g (8 * j + 4); have g5 := g (8 * j + 5); have g6 := g (8 * j + 6); have g7 := g (8 * j + 7)
  have o0 := o (8 * j); have o1 := o (8 * j + 1); have o2 := o (8 * j + 2); have o3 := o (8 * j + 3); have o4 := o (8 * j + 4); have o5 := o (8 * j + 5); have o6 := o (8 * j + 6); have o7 := o (8 * j + 7)
  have hr : B.length % 8 = 0 ∨ B.length % 8 = 1 ∨ B.length % 8 = 2 ∨ B.length % 8 = 3 ∨ B.length % 8 = 4 ∨ B.length % 8 = 5 ∨ B.length % 8 = 6 ∨ B.length % 8 = 7 := by omega
  rcases hr with e | e | e | e | e | e | e | e <;> rw [e] <;> simp only [Int.reducePow, Int.pow_zero] <;> omega
theorem packB_range {B : List Int} (hB : ∀ b ∈ B, b = 0 ∨ b = 1) : ∀ x ∈ packB B, 0 ≤ x ∧ x ≤ 255 := by
  intro x hx
  obtain ⟨j, _, rfl⟩ := List.mem_map.1 hx
  exact byteAt_range hB j
theorem map_set (B : List Int) (b : Int) (n : Nat) (h : B.length / 8 < n) :
    ((List.range n).map (byteAt B)).set (B.length / 8) (byteAt B (B.length / 8) + b * 2 ^ (B.length % 8)) = (List.range n).map (byteAt (B ++ [b])) := by
  apply List.ext_getElem?
  intro j
  rw [List.getElem?_set]
  by_cases e : B.length / 8 = j
  · subst e
    simp [h, byteAt_snoc]
  · rw [if_neg e]
    simp only [List.getElem?_map]
    rcases Nat.lt_or_ge j n with hj | hj
    · rw [List.getElem?_range hj]
      simp only [Option.map_some, byteAt_snoc]; rw [if_neg (fun h : j = B.length / 8 => e h.symm)]; simp
    · rw [List.getElem?_eq_none (by simpa using hj)]; rfl
theorem map_same (B : List Int) (n : Nat) : (List.range n).map (byteAt (B ++ [0])) = (List.range n).map (byteAt B) := by
  apply List.map_congr_left
  intro j _
  rw [byteAt_snoc]; split <;> omega
theorem packB_zero (n : Nat) : (List.range n).map (byteAt []) = List.replicate n 0 := by
  apply List.ext_getElem?
  intro j
  simp only [List.getElem?_map]
  rcases Nat.lt_or_ge j n with hj | hj
  · rw [List.getElem?_range hj]; simp [hj, byteAt]
  · rw [List.getElem?_eq_none (by simpa using hj)]; simp [hj]
end Go.Proofs.Ytcdephhplmcmjaa.Px
end

section
namespace Go.Proofs.Ytcdephhplmcmjaa.D13
set_option linter.unusedVariables false
set_option linter.unusedSimpArgs false
open Go.RowKit Go.Proofs.Ytcdephhplmcmjaa.X Go.Proofs.YtcdephhplmcmjaaW.PrintWords Go.Proofs.YtcdephhplmcmjaaW.PrintLast Go.Proofs.YtcdephhplmcmjaaW.PrintMore Go.Proofs.Ytcdephhplmcmjaa.Bx Go.Proofs.Ytcdephhplmcmjaa.Nx
def vb (n : Nat) : List Int := if n < 128 then [(n : Int)] else ((n % 128 + 128 : Nat) : Int) :: vb (n / 128)
termination_by n
decreasing_by omega
theorem vb_small {n : Nat} (h : n < 128) : vb n = [(n : Int)] := by rw [vb, if_pos h]
theorem vb_big {n : Nat} (h : 128 ≤ n) : vb n = ((n % 128 + 128 : Nat) : Int) :: vb (n / 128) := by rw [vb, if_neg (by omega)]
theorem vb_length : ∀ (d : Nat) (n : Nat), n < 128 ^ (d + 1) → 1 ≤ (vb n).length ∧ (vb n).length ≤ d + 1
  | 0, n, h => by rw [vb_small (by simpa using h)]; simp
  | d + 1, n, h => by
    by_cases c : n < 128
    · rw [vb_small c]; simp
    · rw [vb_big (by omega)]
      have := vb_length d (n / 128) (by rw [Nat.pow_succ] at h; omega)
      simp; omega
theorem vb_length64 {n : Nat} (h : n < 18446744073709551616) : 1 ≤ (vb n).length ∧ (vb n).length ≤ 10 := vb_length 9 n (by omega)
theorem vb_range : ∀ (n : Nat), ∀ x ∈ vb n, 0 ≤ x ∧ x ≤ 255 := by
  intro n
  induction n using Nat.strongRecOn with
  | _ n ih =>
    intro x hx
    by_cases c : n < 128
    · rw [vb_small c] at hx; simp at hx; omega
    · rw [vb_big (by omega), List.mem_cons] at hx
      rcases hx with rfl | hx
      · omega
      · exact ih (n / 128) (by omega) x hx
set_option maxRecDepth 10000 in
theorem or_128_u8 {y : Int} (h0 : 0 ≤ y) (h1 : y ≤ 255) : bits .or .u8 y 128 = y % 128 + 128 := by
  obtain ⟨a, rfl⟩ := Int.eq_ofNat_of_zero_le h0
  have e := (bits_nat .u8 8 (by decide) wraps_u8 a 128 (by omega) (by decide)).2
  have e2 : ((128 : Nat) : Int) = 128 := rfl
  rw [e2] at e
  have k : ∀ b : Fin 256, b.val ||| 128 = b.val % 128 + 128 := by decide
  have := k ⟨a, by omega⟩
  simp only [] at this
  rw [e, this]; omega
theorem number_l : ∀ (k : Nat) (acc : List Int) (x : Int), 0 ≤ x → x ≤ 18446744073709551615 → acc.length + (vb x.toNat).length < 140737488355328 → (vb x.toNat).length ≤ k → delta_number.l0 k acc x = some (acc ++ vb x.toNat)
  | 0, acc, x, _, _, _, h => by
    exfalso
    by_cases c : x.toNat < 128
    · rw [vb_small c] at h; simp at h
    · rw [vb_big (by omega)] at h; simp at h
  | k + 1, acc, x, h0, h1, h2, h => by
    rw [delta_number.l0, or_128_u8 (by omega) (by omega)]
    by_cases c : x ≥ 128
    · have e := vb_big (n := x.toNat) (by omega)
      rw [e, List.length_cons] at h h2
      rw [if_pos c, if_pos (by omega), e]
      have q : (x / 128).toNat = x.toNat / 128 := by omega
      rw [number_l k _ (x / 128) (by omega) (by omega) (by rw [q]; simp; omega) (by rw [q]; omega), q]
      have r : x % 256 % 128 + 128 = ((x.toNat % 128 + 128 : Nat) : Int) := by omega
      rw [r]; simp
    · have e := vb_small (n := x.toNat) (by omega)
      rw [e, List.length_singleton] at h2
      rw [if_neg c, if_pos (by omega), e, show x % 256 = ((x.toNat : Nat) : Int) by omega]
theorem number {k : Nat} {acc : List Int} {x : Int} (hk : 10 ≤ k) (ha : acc.length ≤ 100000000000) (h0 : 0 ≤ x) (h1 : x ≤ 18446744073709551615) : delta_number.f k acc x = some (acc ++ vb x.toNat) := by
  have := vb_length64 (n := x.toNat) (by omega)
  exact number_l k acc x h0 h1 (by omega) (by omega)
def zz (y : Int) : Int := if 0 ≤ y then 2 * y else -2 * y - 1
theorem zz_range {y : Int} (h : -9223372036854775808 ≤ y) (h' : y ≤ 9223372036854775807) : 0 ≤ zz y ∧ zz y ≤ 18446744073709551615 := by unfold zz; split <;> omega
theorem signed {k : Nat} {acc : List Int} {y : Int} (hk : 10 ≤ k) (ha : acc.length ≤ 100000000000) (h : -9223372036854775808 ≤ y) (h' : y ≤ 9223372036854775807) : delta_signed.f k acc y = some (acc ++ vb (zz y).toNat) := by
  unfold delta_signed.f
  have e : bits .xor .u64 (IntKind.u64.wrap (IntKind.u64.wrap y * 2)) (IntKind.u64.wrap (y / 9223372036854775808)) = zz y := by
    unfold zz
    by_cases c : 0 ≤ y
    · rw [if_pos c, show y / 9223372036854775808 = 0 by omega, show IntKind.u64.wrap 0 = 0 by rfl, xor_zero_u64, u64w, u64w]
      omega
    · rw [if_neg c, show y / 9223372036854775808 = -1 by omega, show IntKind.u64.wrap (-1) = 18446744073709551615 by rfl, xor_ones_u64, u64w, u64w]
      omega
  rw [e, number hk ha (zz_range h h').1 (zz_range h h').2]; rfl
theorem and_127_u8 (x : Int) (h0 : 0 ≤ x) (h1 : x ≤ 255) : bits .and .u8 x 127 = x % 128 := bits_mask .u8 8 (by decide) wraps_u8 7 (by decide) x h0 (by omega)
theorem numN_eq {n x : Int} {j : Nat} (h0 : 0 ≤ n) (h1 : n < 2 ^ (7 * j)) (x0 : 0 ≤ x) (x1 : x ≤ 255) (hb : (x % 128) * 2 ^ (7 * j) < 18446744073709551616) (h2 : n < 18446744073709551616) :
    numN n x (7 * j) = n + (x % 128) * 2 ^ (7 * j) := by
  unfold numN
  rw [and_127_u8 x x0 x1, u64w, u64w, Int.emod_eq_of_lt (by omega) (by omega : x % 128 < 18446744073709551616)]
  have hp : (0 : Int) < 2 ^ (7 * j) := Int.pow_pos (by decide)
  have hm : 0 ≤ (x % 128) * 2 ^ (7 * j) := Int.mul_nonneg (by omega) (by omega)
  rw [Int.emod_eq_of_lt hm hb]
  exact or_low_high (7 * j) _ _ h0 h1 hm (Int.mul_emod_left _ _) hb h2
theorem numS_vb : ∀ (d : Nat) (n : Nat) (tl : List Int) (j : Nat) (acc : Int), (vb n).length ≤ d → 0 ≤ acc → acc < 2 ^ (7 * j) → acc + n * 2 ^ (7 * j) < 18446744073709551616 → (0 < j → 0 < n) → j ≤ 9 →
    numS (7 * j) acc (vb n ++ tl) = .ok (acc + n * 2 ^ (7 * j), tl)
  | 0, n, tl, j, acc, h, _, _, _, _, _ => by
    exfalso
    by_cases c : n < 128
    · rw [vb_small c] at h; simp at h
    · rw [vb_big (by omega)] at h; simp at h
  | d + 1, n, tl, j, acc, h, ha, ha1, hn, hj, hj9 => by
    have hP : (0 : Int) < 2 ^ (7 * j) := Int.pow_pos (by decide)
    by_cases c : n < 128
    · rw [vb_small c, List.singleton_append, numS]
      have h9 : 7 * j < 63 ∨ (n : Int) < 2 := by
        rcases Nat.lt_or_ge j 9 with q | q
        · exact .inl (by omega)
        · right
          have : j = 9 := by omega
          subst this
          have : (2 : Int) ^ (7 * 9) = 9223372036854775808 := by decide
          omega
      rw [if_pos ⟨h9, by rcases Nat.eq_zero_or_pos j with q | q; exact .inl (by omega); exact .inr (by have := hj q; omega)⟩, if_pos (by omega)]
      rw [numN_eq ha ha1 (by omega) (by omega) (by rw [show (n : Int) % 128 = n by omega]; omega) (by have : 0 ≤ (n : Int) * 2 ^ (7 * j) := Int.mul_nonneg (by omega) (by omega); omega)]
      rw [show (n : Int) % 128 = n by omega]
    · rw [vb_big (by omega), List.cons_append, numS]
      rw [vb_big (by omega), List.length_cons] at h
      have hj9' : j < 9 := by
        rcases Nat.lt_or_ge j 9 with q | q
        · exact q
        · exfalso
          have : j = 9 := by omega
          subst this
          have : (2 : Int) ^ (7 * 9) = 9223372036854775808 := by decide
          omega
      rw [if_pos ⟨.inl (by omega), .inr (by omega)⟩, if_neg (by omega)]
      have hq : (2 : Int) ^ (7 * (j + 1)) = 128 * 2 ^ (7 * j) := by rw [show 7 * (j + 1) = 7 * j + 7 by omega, Int.pow_add]; rw [Int.mul_comm]; rfl
      generalize hPP : (2 : Int) ^ (7 * j) = P at *
      have hsum : (n : Int) * P = ((n % 128 : Nat) : Int) * P + ((n / 128 : Nat) : Int) * (128 * P) := by
        have : (n : Int) = ((n % 128 : Nat) : Int) + ((n / 128 : Nat) : Int) * 128 := by omega
        conv => lhs; rw [this]
        rw [Int.add_mul, Int.mul_assoc]
      have h1 : 0 ≤ ((n / 128 : Nat) : Int) * (128 * P) := Int.mul_nonneg (by omega) (by omega)
      have h2 : 0 ≤ ((n % 128 : Nat) : Int) * P := Int.mul_nonneg (by omega) (by omega)
      have h3 : ((n % 128 : Nat) : Int) * P ≤ 127 * P := Int.mul_le_mul_of_nonneg_right (by omega) (by omega)
      rw [numN_eq (j := j) ha (by rw [hPP]; exact ha1) (by omega) (by omega) (by rw [hPP, show (((n % 128 + 128 : Nat) : Int)) % 128 = ((n % 128 : Nat) : Int) by omega]; omega) (by omega), hPP,
        show (((n % 128 + 128 : Nat) : Int)) % 128 = ((n % 128 : Nat) : Int) by omega]
      have := numS_vb d (n / 128) tl (j + 1) (acc + ((n % 128 : Nat) : Int) * P) (by omega) (by omega) (by rw [hq]; omega) (by rw [hq]; omega) (by intro _; omega) (by omega)
      rw [show 7 * j + 7 = 7 * (j + 1) by omega, this, hq]
      congr 2
      omega
theorem numS_back {n : Nat} (h : n < 18446744073709551616) (tl : List Int) : numS 0 0 (vb n ++ tl) = .ok ((n : Int), tl) := by
  have := numS_vb 10 n tl 0 0 (vb_length64 h).2 (by omega) (by simp) (by simp; omega) (by omega) (by omega)
  simpa using this
theorem sgnV_eq {a : Int} (h : 0 ≤ a) (h' : a ≤ 18446744073709551615) : sgnV a = if a % 2 = 0 then a / 2 else - (a / 2) - 1 := by
  unfold sgnV
  rw [and_one_u64 a h h']
  by_cases c : a % 2 = 0
  · rw [if_pos c, c, show wrap64 (-(wrap64 0)) = 0 by simp [wrap64], xor_zero_i64]
    unfold wrap64; omega
  · rw [if_neg c, show a % 2 = 1 by omega, show wrap64 (-(wrap64 1)) = -1 by simp [wrap64], xor_ones_i64]
    unfold wrap64; omega
theorem sgnV_zz {y : Int} (h : -9223372036854775808 ≤ y) (h' : y ≤ 9223372036854775807) : sgnV (zz y) = y := by
  rw [sgnV_eq (zz_range h h').1 (zz_range h h').2]
  unfold zz
  split <;> split <;> omega
theorem signed_back {y : Int} (h : -9223372036854775808 ≤ y) (h' : y ≤ 9223372036854775807) (tl : List Int) : mapS sgnV (numS 0 0 (vb (zz y).toNat ++ tl)) = .ok (y, tl) := by
  have hz := zz_range h h'
  rw [numS_back (by omega)]
  show Except.ok (sgnV (((zz y).toNat : Nat) : Int), tl) = _
  rw [show (((zz y).toNat : Nat) : Int) = zz y by omega, sgnV_zz h h']
structure Good {α : Type} (P : List Int → Except Int (α × List Int)) : Prop where
  took : ∀ b v r, P b = .ok (v, r) → ∃ c, b = c ++ r ∧ (∀ r', P (c ++ r') = .ok (v, r')) ∧ ∀ p s, c = p ++ s → s ≠ [] → P p = .error 6
theorem Good.ok {α : Type} (v : α) : Good fun b => .ok (v, b) := ⟨fun b v' r h => by
  obtain ⟨rfl, rfl⟩ : v = v' ∧ b = r := by simpa using h
  exact ⟨[], rfl, fun _ => rfl, fun p s h hs => by simp at h; exact absurd h.2 hs⟩⟩
theorem Good.err {α : Type} (x : Int) : Good fun _ => (.error x : Except Int (α × List Int)) := ⟨fun _ _ _ h => by cases h⟩
theorem Good.ite {α : Type} {c : Prop} [Decidable c] {P Q : List Int → Except Int (α × List Int)} (hp : Good P) (hq : Good Q) : Good fun b => if c then P b else Q b := by
  by_cases h : c
  · simp only [if_pos h]; exact hp
  · simp only [if_neg h]; exact hq
theorem Good.and {α β : Type} {P : List Int → Except Int (α × List Int)} {Q : α → List Int → Except Int (β × List Int)} (hp : Good P) (hq : ∀ v, Good (Q v)) : Good fun b => andS (P b) (Q · ·) := by
  refine ⟨fun b v r h => ?_⟩
  cases h1 : P b with
  | error x => simp only [h1, andS_err] at h; cases h
  | ok p =>
    obtain ⟨v1, r1⟩ := p
    simp only [h1, andS_ok] at h
    obtain ⟨c1, rfl, a1, b1⟩ := hp.took _ _ _ h1
    obtain ⟨c2, rfl, a2, b2⟩ := (hq v1).took _ _ _ h
    refine ⟨c1 ++ c2, by simp, fun r' => ?_, fun p s he hs => ?_⟩
    · simp only [List.append_assoc, a1, andS_ok, a2]
    · rcases List.append_eq_append_iff.1 he with ⟨a', rfl, ha⟩ | ⟨c', rfl, hc⟩
      · simp only [a1, andS_ok]
        exact b2 a' s ha hs
      · by_cases hc0 : c' = []
        · subst hc0
          simp only [List.append_nil] at a1 b1 ⊢
          have hp0 := a1 []
          rw [List.append_nil] at hp0
          simp only [hp0, andS_ok]
          exact b2 [] s (by simpa using hc.symm) hs
        · simp only [b1 p c' rfl hc0, andS_err]
theorem Good.map {α β : Type} {P : List Int → Except Int (α × List Int)} (f : α → β) (hp : Good P) : Good fun b => mapS f (P b) := by
  have := Good.and hp (fun v => Good.ok (f v))
  refine ⟨fun b v r h => ?_⟩
  have e : ∀ b, mapS f (P b) = andS (P b) fun v b => .ok (f v, b) := fun b => by cases P b <;> rfl
  simp only [e] at h ⊢
  exact this.took b v r h
end Go.Proofs.Ytcdephhplmcmjaa.D13
end

section
namespace Go.Proofs.Ytcdephhplmcmjaa.D13
set_option linter.unusedVariables false
set_option linter.unusedSimpArgs false
open Go.RowKit Go.Proofs.Ytcdephhplmcmjaa.X Go.Proofs.YtcdephhplmcmjaaW.PrintWords Go.Proofs.YtcdephhplmcmjaaW.PrintLast Go.Proofs.YtcdephhplmcmjaaW.PrintMore Go.Proofs.Ytcdephhplmcmjaa.Bx Go.Proofs.Ytcdephhplmcmjaa.Nx Go.Proofs.Ytcdephhplmcmjaa.Px
def bt (l : List Int) (i : Nat) : Int := l.getD (i / 8) 0 / 2 ^ (i % 8) % 2
theorem bt_range (l : List Int) (i : Nat) : bt l i = 0 ∨ bt l i = 1 := by unfold bt; omega
def valF (g : Nat → Int) : Nat → Nat → Int
  | _, 0 => 0
  | P, d + 1 => g P + 2 * valF g (P + 1) d
theorem valF_snoc (g : Nat → Int) : ∀ (d P : Nat), valF g P (d + 1) = valF g P d + g (P + d) * 2 ^ d
  | 0, P => by simp [valF]
  | d + 1, P => by
    rw [valF, valF_snoc g d (P + 1), valF, Int.pow_succ, show P + 1 + d = P + (d + 1) by omega, Int.mul_add, Int.add_assoc, ← Int.mul_assoc, Int.mul_comm (2 ^ d) 2, ← Int.mul_assoc, Int.mul_comm 2 (g (P + (d + 1)))]
theorem valF_range {g : Nat → Int} (hg : ∀ i, g i = 0 ∨ g i = 1) : ∀ (d P : Nat), 0 ≤ valF g P d ∧ valF g P d < 2 ^ d
  | 0, P => by simp [valF]
  | d + 1, P => by
    have := valF_range hg d (P + 1)
    have h2 := hg P
    rw [valF, Int.pow_succ]
    omega
theorem getD_u8 {l : List Int} (hl : ∀ x ∈ l, 0 ≤ x ∧ x ≤ 255) (j : Nat) : 0 ≤ l.getD j 0 ∧ l.getD j 0 ≤ 255 := by
  rw [List.getD_eq_getElem?_getD]
  by_cases h : j < l.length
  · rw [List.getElem?_eq_getElem h]; exact hl _ (List.getElem_mem h)
  · rw [List.getElem?_eq_none (by omega)]; simp
theorem shr_range {x : Int} {t : Nat} (h : 0 ≤ x ∧ x ≤ 255) : 0 ≤ x / 2 ^ t ∧ x / 2 ^ t ≤ 255 := by
  have hp : (0 : Int) < 2 ^ t := Int.pow_pos (by decide)
  have := Int.ediv_le_self (2 ^ t) h.1
  exact ⟨Int.ediv_nonneg h.1 (Int.le_of_lt hp), by omega⟩
theorem and_one_u8 (x : Int) (h0 : 0 ≤ x) (h1 : x ≤ 255) : bits .and .u8 x 1 = x % 2 := by
  obtain ⟨a, rfl⟩ := Int.eq_ofNat_of_zero_le h0
  have e := (bits_nat .u8 8 (by decide) wraps_u8 a 1 (by omega) (by decide)).1
  have e2 : ((1 : Nat) : Int) = 1 := rfl
  rw [e2] at e
  rw [e, Nat.and_one_is_mod]; omega
theorem valF_digits (g : Nat → Int) (X : Nat) : ∀ (d P c : Nat), (∀ t, t < d → g (P + t) = ((X / 2 ^ (c + t) % 2 : Nat) : Int)) → valF g P d = ((X / 2 ^ c % 2 ^ d : Nat) : Int)
  | 0, P, c, h => by simp [valF, Nat.mod_one]
  | d + 1, P, c, h => by
    have h0 := h 0 (by omega)
    rw [Nat.add_zero, Nat.add_zero] at h0
    have ih := valF_digits g X d (P + 1) (c + 1) (fun t ht => by
      have := h (t + 1) (by omega)
      rwa [show P + (t + 1) = P + 1 + t by omega, show c + (t + 1) = c + 1 + t by omega] at this)
    have e : X / 2 ^ c / 2 = X / 2 ^ (c + 1) := by rw [Nat.div_div_eq_div_mul, Nat.pow_succ]
    have e2 : X / 2 ^ c % 2 ^ (d + 1) = X / 2 ^ c % 2 + 2 * (X / 2 ^ (c + 1) % 2 ^ d) := by rw [Nat.pow_succ 2 d, Nat.mul_comm (2 ^ d) 2, Nat.mod_mul, e]
    rw [valF, ih, h0, e2]
    generalize X / 2 ^ c % 2 = u
    generalize X / 2 ^ (c + 1) % 2 ^ d = v
    omega
theorem bitsFrom_get (n : Int) : ∀ (d i c : Nat), c < d → (bitsFrom n i d).getD c 0 = n / 2 ^ (i + c) % 2
  | 0, _, c, h => absurd h (by omega)
  | d + 1, i, 0, h => by simp [bitsFrom]
  | d + 1, i, c + 1, h => by
    have := bitsFrom_get n d (i + 1) c (by omega)
    rw [show i + 1 + c = i + (c + 1) by omega] at this
    rw [bitsFrom, ← this]; simp
theorem allBits_get (W : Nat) : ∀ (l : List Int) (i c : Nat), i < l.length → c < W → (allBits W l).getD (i * W + c) 0 = l.getD i 0 / 2 ^ c % 2
  | [], i, c, h, _ => absurd h (by simp)
  | x :: l, 0, c, h, hc => by
    rw [allBits_cons, List.getD_eq_getElem?_getD, List.getElem?_append_left (by rw [bitsFrom_length]; omega), ← List.getD_eq_getElem?_getD, Nat.zero_mul, Nat.zero_add, bitsFrom_get x W 0 c hc, Nat.zero_add]; rfl
  | x :: l, i + 1, c, h, hc => by
    have := allBits_get W l i c (by simpa using h) hc
    rw [allBits_cons, List.getD_eq_getElem?_getD, List.getElem?_append_right (by rw [bitsFrom_length, Nat.add_mul]; omega), ← List.getD_eq_getElem?_getD, bitsFrom_length, show (i + 1) * W + c - W = i * W + c by rw [Nat.add_mul]; omega, this]; simp
theorem eight_bits {x0 x1 x2 x3 x4 x5 x6 x7 : Int} (h0 : x0 = 0 ∨ x0 = 1) (h1 : x1 = 0 ∨ x1 = 1) (h2 : x2 = 0 ∨ x2 = 1) (h3 : x3 = 0 ∨ x3 = 1) (h4 : x4 = 0 ∨ x4 = 1) (h5 : x5 = 0 ∨ x5 = 1) (h6 : x6 = 0 ∨ x6 = 1) (h7 : x7 = 0 ∨ x7 = 1) :
    (x0 + 2 * x1 + 4 * x2 + 8 * x3 + 16 * x4 + 32 * x5 + 64 * x6 + 128 * x7) / 1 % 2 = x0 ∧ (x0 + 2 * x1 + 4 * x2 + 8 * x3 + 16 * x4 + 32 * x5 + 64 * x6 + 128 * x7) / 2 % 2 = x1 ∧ (x0 + 2 * x1 + 4 * x2 + 8 * x3 + 16 * x4 + 32 * x5 + 64 * x6 + 128 * x7) / 4 % 2 = x2 ∧ (x0 + 2 * x1 + 4 * x2 + 8 * x3 + 16 * x4 + 32 * x5 + 64 * x6 + 128 * x7) / 8 % 2 = x3 ∧
    (x0 + 2 * x1 + 4 * x2 + 8 * x3 + 16 * x4 + 32 * x5 + 64 * x6 + 128 * x7) / 16 % 2 = x4 ∧ (x0 + 2 * x1 + 4 * x2 + 8 * x3 + 16 * x4 + 32 * x5 + 64 * x6 + 128 * x7) / 32 % 2 = x5 ∧ (x0 + 2 * x1 + 4 * x2 + 8 * x3 + 16 * x4 + 32 * x5 + 64 * x6 + 128 * x7) / 64 % 2 = x6 ∧ (x0 + 2 * x1 + 4 * x2 + 8 * x3 + 16 * x4 + 32 * x5 + 64 * x6 + 128 * x7) / 128 % 2 = x7 := by
  have a0 : 0 ≤ x0 ∧ x0 ≤ 1 := by omega
  have a1 : 0 ≤ x1 ∧ x1 ≤ 1 := by omega
  have a2 : 0 ≤ x2 ∧ x2 ≤ 1 := by omega
  have a3 : 0 ≤ x3 ∧ x3 ≤ 1 := by omega
  have a4 : 0 ≤ x4 ∧ x4 ≤ 1 := by omega
  have a5 : 0 ≤ x5 ∧ x5 ≤ 1 := by omega
  have a6 : 0 ≤ x6 ∧ x6 ≤ 1 := by omega
  have a7 : 0 ≤ x7 ∧ x7 ≤ 1 := by omega
  clear h0 h1 h2 h3 h4 h5 h6 h7
  refine ⟨by omega, by omega, by omega, by omega, by omega, by omega, by omega, by omega⟩
theorem byteAt_bit {B : List Int} (hB : ∀ b ∈ B, b = 0 ∨ b = 1) (j t : Nat) (ht : t < 8) : byteAt B j / 2 ^ t % 2 = B.getD (8 * j + t) 0 := by
  have h := eight_bits (getD_bit hB (8 * j)) (getD_bit hB (8 * j + 1)) (getD_bit hB (8 * j + 2)) (getD_bit hB (8 * j + 3)) (getD_bit hB (8 * j + 4)) (getD_bit hB (8 * j + 5)) (getD_bit hB (8 * j + 6)) (getD_bit hB (8 * j + 7))
  have : t = 0 ∨ t = 1 ∨ t = 2 ∨ t = 3 ∨ t = 4 ∨ t = 5 ∨ t = 6 ∨ t = 7 := by omega
  rcases this with rfl | rfl | rfl | rfl | rfl | rfl | rfl | rfl
  · exact h.1
  · exact h.2.1
  · exact h.2.2.1
  · exact h.2.2.2.1
  · exact h.2.2.2.2.1
  · exact h.2.2.2.2.2.1
  · exact h.2.2.2.2.2.2.1
  · exact h.2.2.2.2.2.2.2
theorem bt_packB {B : List Int} (hB : ∀ b ∈ B, b = 0 ∨ b = 1) (i : Nat) : bt (packB B) i = B.getD i 0 := by
  unfold bt packB
  rw [List.getD_eq_getElem?_getD, List.getElem?_map]
  by_cases h : i / 8 < (B.length + 7) / 8
  · rw [List.getElem?_range h]
    have := byteAt_bit hB (i / 8) (i % 8) (by omega)
    rw [show 8 * (i / 8) + i % 8 = i by omega] at this
    exact this
  · rw [List.getElem?_eq_none (by simp; omega), getD_out B (by omega)]
    simp
theorem rd_map (B : List Int) (n j : Nat) (h : j < n) : rd ((List.range n).map (byteAt B)) (j : Int) = byteAt B j := by
  unfold rd
  rw [List.getD_eq_getElem?_getD, List.getElem?_map, show ((j : Int)).toNat = j from rfl, List.getElem?_range h]; rfl
theorem w64n {n : Nat} (h : n ≤ 1000000000) : wrap64 (n : Int) = n := by unfold wrap64; omega
theorem w64s {n : Nat} (h : n + 1 ≤ 1000000000) : wrap64 ((n : Int) + 1) = ((n + 1 : Nat) : Int) := by unfold wrap64; omega
theorem and_one_i64 (y : Int) : bits .and .i64 y 1 = y % 2 := by
  show IntKind.i64.wrap ((BitVec.ofInt 64 y &&& BitVec.ofInt 64 1).toNat : Int) = _
  have e : (BitVec.ofInt 64 y &&& BitVec.ofInt 64 1).toNat = (y % 2).toNat := by
    rw [BitVec.toNat_and, BitVec.toNat_ofInt, BitVec.toNat_ofInt]
    have b : ((1 : Int) % ((2 ^ 64 : Nat) : Int)).toNat = 1 := by decide
    rw [b, Nat.and_one_is_mod]
    omega
  rw [e, IntKind.wrap_i64]
  omega
theorem or_low_high8 (i : Nat) (x y : Int) (hx0 : 0 ≤ x) (hx : x < 2 ^ i) (hy0 : 0 ≤ y) (hy : y % 2 ^ i = 0) (hy1 : y < 256) (hx1 : x < 256) :
    bits .or .u8 x y = x + y := by
  have := bits_join .u8 8 (by decide) wraps_u8 i y x hy0 hy (by omega) hx0 hx (by omega)
  obtain ⟨a, rfl⟩ := Int.eq_ofNat_of_zero_le hx0
  obtain ⟨b, rfl⟩ := Int.eq_ofNat_of_zero_le hy0
  have c := (bits_nat .u8 8 (by decide) wraps_u8 a b (by omega) (by omega)).2
  have d := (bits_nat .u8 8 (by decide) wraps_u8 b a (by omega) (by omega)).2
  rw [Nat.or_comm] at c
  have : bits .or .u8 (a : Int) (b : Int) = bits .or .u8 (b : Int) (a : Int) := c.trans d.symm
  omega
theorem pk_byte {B : List Int} (hB : ∀ b ∈ B, b = 0 ∨ b = 1) {b : Int} (hb : b = 0 ∨ b = 1) {L : Nat} (hL : B.length = L) (hl : L < 9223372036854775808) :
    bits .or .u8 (byteAt B (L / 8)) (shl .u8 (b % 256) (bits .and .i64 (L : Int) 7)) = byteAt B (L / 8) + b * 2 ^ (L % 8) := by
  have e7 : bits .and .i64 (L : Int) 7 = ((L % 8 : Nat) : Int) := and_low_i64 L 7 3 (by decide) (by decide) hl
  rw [e7]
  have hb1 := byteAt_range hB (L / 8)
  have hb2 := byteAt_last hB
  rw [hL] at hb2
  have hr : L % 8 < 8 := by omega
  have hs : shl .u8 (b % 256) ((L % 8 : Nat) : Int) = b * 2 ^ (L % 8) := by
    unfold shl
    rw [show min (((L % 8 : Nat) : Int)).toNat IntKind.u8.bits = L % 8 from by show min _ 8 = _; omega, IntKind.wrap_u8]
    have hr8 : L % 8 = 0 ∨ L % 8 = 1 ∨ L % 8 = 2 ∨ L % 8 = 3 ∨ L % 8 = 4 ∨ L % 8 = 5 ∨ L % 8 = 6 ∨ L % 8 = 7 := by omega
    rcases hb with rfl | rfl <;> rcases hr8 with h | h | h | h | h | h | h | h <;> rw [h] <;> decide
  rw [hs]
  have hp : (0 : Int) < 2 ^ (L % 8) := Int.pow_pos (by decide)
  have hp2 : (2 : Int) ^ (L % 8) ≤ 128 := by
    have hr8 : L % 8 = 0 ∨ L % 8 = 1 ∨ L % 8 = 2 ∨ L % 8 = 3 ∨ L % 8 = 4 ∨ L % 8 = 5 ∨ L % 8 = 6 ∨ L % 8 = 7 := by omega
    rcases hr8 with h | h | h | h | h | h | h | h <;> rw [h] <;> decide
  refine or_low_high8 (L % 8) _ _ hb1.1 hb2 (by rcases hb with rfl | rfl <;> omega) (Int.mul_emod_left _ _) (by rcases hb with rfl | rfl <;> omega) (by omega)
theorem pk_l1 : ∀ (d : Nat) (k : Nat) (W : Nat) (n c : Nat) (x : Int) (B ys : List Int) (m i : Int), (∀ b ∈ B, b = 0 ∨ b = 1) → c + d = W → W ≤ 64 → B.length + d ≤ 1000000000 → (B.length + d + 7) / 8 ≤ n →
    delta_Pack.l1 (k + d + 1) (W : Int) ((List.range n).map (byteAt B)) (B.length : Int) x ys m i (W : Int) (c : Int) = delta_Pack.l0 k (W : Int) ((List.range n).map (byteAt (B ++ bitsFrom x c d))) ((B.length + d : Nat) : Int) ys m (wrap64 (i + 1))
  | 0, k, W, n, c, x, B, ys, m, i, hB, hc, hW, hl, hn => by
    rw [show k + 0 + 1 = k + 1 by omega, delta_Pack.l1, if_neg (by omega)]; simp [bitsFrom]
  | d + 1, k, W, n, c, x, B, ys, m, i, hB, hc, hW, hl, hn => by
    rw [show k + (d + 1) + 1 = (k + d + 1) + 1 by omega, delta_Pack.l1, if_pos (by omega), if_pos (by omega), if_pos (by rw [List.length_map, List.length_range]; omega), if_pos (by omega)]
    have e7 : bits .and .i64 (B.length : Int) 7 = ((B.length % 8 : Nat) : Int) := and_low_i64 B.length 7 3 (by decide) (by decide) (by omega)
    rw [if_pos (by rw [e7]; omega)]
    have hsh : shr .i64 x (c : Int) = x / 2 ^ c := by
      unfold shr
      rw [show min ((c : Int)).toNat IntKind.i64.bits = c from by show min _ 64 = _; omega]
    rw [hsh, and_one_i64]
    have hb : x / 2 ^ c % 2 = 0 ∨ x / 2 ^ c % 2 = 1 := by omega
    have e8 : (B.length : Int) / 8 = ((B.length / 8 : Nat) : Int) := by omega
    rw [e8, rd_map B n _ (by omega), show ((((B.length / 8 : Nat)) : Int)).toNat = B.length / 8 from rfl, pk_byte hB hb rfl (by omega), map_set B _ n (by omega)]
    have hB' : ∀ b ∈ B ++ [x / 2 ^ c % 2], b = 0 ∨ b = 1 := by
      intro b hb'
      rcases List.mem_append.1 hb' with h | h
      · exact hB b h
      · rw [List.mem_singleton.1 h]; exact hb
    have ih := pk_l1 d k W n (c + 1) x (B ++ [x / 2 ^ c % 2]) ys m i hB' (by omega) hW (by simp; omega) (by simp; omega)
    rw [List.append_assoc, show [x / 2 ^ c % 2] ++ bitsFrom x (c + 1) d = bitsFrom x c (d + 1) from rfl, List.length_append, List.length_singleton] at ih
    rw [w64s (by omega), w64s (by omega), ih, show B.length + 1 + d = B.length + (d + 1) by omega]
theorem rd_snoc {ys0 ys1 : List Int} {x : Int} : rd (ys0 ++ x :: ys1) (ys0.length : Int) = x := by
  unfold rd
  rw [List.getD_eq_getElem?_getD, show ((ys0.length : Int)).toNat = ys0.length from rfl, List.getElem?_append_right (Nat.le_refl _)]; simp
theorem pk_l0 : ∀ (ys1 : List Int) (k : Nat) (W : Nat) (n : Nat) (ys ys0 : List Int), ys = ys0 ++ ys1 → W ≤ 64 → ys.length ≤ 1000000 → (ys.length * W + 7) / 8 ≤ n → ys1.length * (W + 2) + 1 ≤ k →
    delta_Pack.l0 k (W : Int) ((List.range n).map (byteAt (allBits W ys0))) ((ys0.length * W : Nat) : Int) ys (ys.length : Int) (ys0.length : Int) = some ((List.range n).map (byteAt (allBits W ys)))
  | [], k, W, n, ys, ys0, he, hW, hl, hn, hk => by
    obtain ⟨k, rfl⟩ : ∃ j, k = j + 1 := ⟨k - 1, by omega⟩
    rw [List.append_nil] at he
    subst he
    rw [delta_Pack.l0, if_neg (by omega)]
  | x :: ys1, k, W, n, ys, ys0, he, hW, hl, hn, hk => by
    have hll : ys.length = ys0.length + (ys1.length + 1) := by rw [he]; simp
    have hmw : ys0.length * W + W ≤ ys.length * W := by
      have := Nat.mul_le_mul_right W (show ys0.length + 1 ≤ ys.length by omega)
      rw [Nat.add_mul] at this; omega
    have hmb : ys.length * W ≤ 1000000 * 64 := Nat.mul_le_mul hl hW
    have hkk : (x :: ys1).length * (W + 2) = ys1.length * (W + 2) + (W + 2) := by rw [List.length_cons, Nat.add_mul]; omega
    rw [hkk] at hk
    obtain ⟨k', rfl⟩ : ∃ j, k = (j + W + 1) + 1 := ⟨k - W - 2, by omega⟩
    have hrd : rd ys (ys0.length : Int) = x := by rw [he]; exact rd_snoc
    rw [delta_Pack.l0, if_pos (by omega), if_pos (by omega), if_pos (by omega), hrd]
    have hq := pk_l1 W k' W n 0 x (allBits W ys0) ys (ys.length : Int) (ys0.length : Int) (allBits_range W ys0) (by omega) hW (by rw [allBits_length]; omega) (by rw [allBits_length]; omega)
    rw [allBits_length] at hq
    have z : ((0 : Nat) : Int) = 0 := rfl
    rw [z] at hq
    rw [hq, w64 (by omega) (by omega)]
    have e : allBits W ys0 ++ bitsFrom x 0 W = allBits W (ys0 ++ [x]) := by simp [allBits]
    have ih := pk_l0 ys1 k' W n ys (ys0 ++ [x]) (by rw [he]; simp) hW hl hn (by omega)
    rw [List.length_append, List.length_singleton, Nat.add_mul, Nat.one_mul] at ih
    rw [e, show (ys0.length : Int) + 1 = ((ys0.length + 1 : Nat) : Int) by omega]
    exact ih
theorem pack {k : Nat} {W : Nat} {ys : List Int} (hW : W ≤ 64) (hl : ys.length ≤ 1000000) (hk : ys.length * (W + 2) + 2 ≤ k) : delta_Pack.f k (W : Int) ys = some (packB (allBits W ys)) := by
  obtain ⟨k, rfl⟩ : ∃ j, k = j + 1 := ⟨k - 1, by omega⟩
  unfold delta_Pack.f
  have hmb : ys.length * W ≤ 1000000 * 64 := Nat.mul_le_mul hl hW
  have hm : ((ys.length * W : Nat) : Int) = (W : Int) * (ys.length : Int) := by rw [Int.natCast_mul, Int.mul_comm]
  rw [if_neg (by omega), show decide ((W : Int) > 64) = false from decide_eq_false (by omega), delta_Pack.j0, if_neg (by decide), ← hm, w64n (by omega : ys.length * W ≤ 1000000000), w64 (by omega) (by omega), if_pos (by omega), if_pos (by omega)]
  have := pk_l0 ys k W ((((ys.length * W : Nat) : Int) + 7) / 8).toNat ys [] rfl hW hl (by omega) (by omega)
  have e : allBits W [] = [] := rfl
  rw [e, packB_zero] at this
  have z : (([] : List Int).length : Int) = 0 := rfl
  rw [z, List.length_nil, Nat.zero_mul] at this
  refine Eq.trans (show _ = _ from this) ?_
  congr 1
  unfold packB
  rw [allBits_length]
  congr 2
theorem ofInt_wrap64 (x : Int) : BitVec.ofInt 64 (wrap64 x) = BitVec.ofInt 64 x := by
  apply BitVec.eq_of_toNat_eq
  rw [BitVec.toNat_ofInt, BitVec.toNat_ofInt]
  unfold wrap64
  omega
theorem or_i64 (x y : Int) : bits .or .i64 (wrap64 x) (wrap64 y) = wrap64 (bits .or .u64 x y) := by
  show IntKind.i64.wrap ((BitVec.ofInt 64 (wrap64 x) ||| BitVec.ofInt 64 (wrap64 y)).toNat : Int) = wrap64 (IntKind.u64.wrap ((BitVec.ofInt 64 x ||| BitVec.ofInt 64 y).toNat : Int))
  rw [ofInt_wrap64, ofInt_wrap64, u64w, IntKind.wrap_i64]
  have := (BitVec.ofInt 64 x ||| BitVec.ofInt 64 y).isLt
  unfold wrap64
  omega
theorem pow_le64 {d : Nat} (h : d ≤ 64) : (2 : Int) ^ d ≤ 18446744073709551616 := by
  have := Nat.pow_le_pow_right (n := 2) (by decide) h
  have e : ∀ n : Nat, ((2 ^ n : Nat) : Int) = (2 : Int) ^ n := fun n => by simp
  rw [← e]
  exact Int.ofNat_le.2 this
theorem pkBit_eq {bs : List Int} (hu : ∀ x ∈ bs, 0 ≤ x ∧ x ≤ 255) (j : Nat) : pkBit bs j = bt bs j := by
  have := shr_range (t := j % 8) (getD_u8 hu (j / 8))
  unfold pkBit bt
  rw [and_one_u8 _ this.1 this.2]
  exact w64 (by omega) (by omega)
theorem pkF_eq {bs : List Int} (hu : ∀ x ∈ bs, 0 ≤ x ∧ x ≤ 255) (s : Nat) : ∀ k, k ≤ 64 → pkF bs s k = wrap64 (valF (bt bs) s k)
  | 0, _ => by simp [pkF, valF, wrap64]
  | k + 1, h => by
    have hr := valF_range (bt_range bs) k s
    have hb := bt_range bs (s + k)
    have hp : (0 : Int) < 2 ^ k := Int.pow_pos (by decide)
    have hp2 : (2 : Int) ^ k * 2 ≤ 18446744073709551616 := by rw [← Int.pow_succ]; exact pow_le64 h
    rw [pkF, pkF_eq hu s k (by omega), pkBit_eq hu, or_i64, valF_snoc]
    congr 1
    refine or_low_high k _ _ hr.1 hr.2 ?_ (Int.mul_emod_left _ _) ?_ (by omega)
    · rcases hb with e | e <;> rw [e] <;> omega
    · rcases hb with e | e <;> rw [e] <;> omega
theorem digit (x : Int) (c : Nat) (hc : c < 64) : x / 2 ^ c % 2 = (((x % 18446744073709551616).toNat / 2 ^ c % 2 : Nat) : Int) := by
  have hp : (0 : Int) < 2 ^ c := Int.pow_pos (by decide)
  have e64 : (18446744073709551616 : Int) = 2 ^ c * (2 * 2 ^ (63 - c)) := by
    rw [Int.mul_left_comm, ← Int.pow_add, show c + (63 - c) = 63 by omega]; decide
  obtain ⟨m, hm⟩ : ∃ m, m = x % 18446744073709551616 := ⟨_, rfl⟩
  obtain ⟨q, hq⟩ : ∃ q, q = x / 18446744073709551616 := ⟨_, rfl⟩
  have hx : x = m + 2 ^ c * (2 * 2 ^ (63 - c) * q) := by
    rw [← Int.mul_assoc, ← e64, hm, hq]; omega
  have hm0 : 0 ≤ m := by omega
  rw [← hm]
  conv => lhs; rw [hx, Int.add_mul_ediv_left _ _ (by omega)]
  obtain ⟨mn, rfl⟩ := Int.eq_ofNat_of_zero_le hm0
  have e1 : ((mn : Int)).toNat = mn := rfl
  have e2 : (mn : Int) / 2 ^ c = ((mn / 2 ^ c : Nat) : Int) := by simp
  rw [e1, e2, Int.mul_assoc]
  omega
theorem allBits_val {W : Nat} (hW : W ≤ 64) (xs : List Int) (i : Nat) (h : i < xs.length) : valF (bt (packB (allBits W xs))) (i * W) W = (((xs.getD i 0 % 18446744073709551616).toNat % 2 ^ W : Nat) : Int) := by
  have := valF_digits (bt (packB (allBits W xs))) (xs.getD i 0 % 18446744073709551616).toNat W (i * W) 0 (fun t ht => by
    rw [bt_packB (allBits_range W xs), allBits_get W xs i t h ht, Nat.zero_add]
    exact digit _ t (by omega))
  rw [this, Nat.pow_zero, Nat.div_one]
def fitsW (W : Nat) (x : Int) : Prop := (x % 18446744073709551616).toNat < 2 ^ W ∧ -9223372036854775808 ≤ x ∧ x ≤ 9223372036854775807
theorem fits_back {W : Nat} {x : Int} (h : fitsW W x) : wrap64 (((x % 18446744073709551616).toNat % 2 ^ W : Nat) : Int) = x := by
  rw [Nat.mod_eq_of_lt h.1]
  have := h.2
  unfold wrap64
  omega
theorem packed_back {W : Nat} {xs : List Int} (hW : W ≤ 64) (hl : xs.length = 32) (hx : ∀ x ∈ xs, fitsW W x) (tl : List Int) : packedS W (packB (allBits W xs) ++ tl) = .ok (xs, tl) := by
  have hlen : (packB (allBits W xs)).length = 4 * W := by rw [packB_length, allBits_length, hl]; omega
  unfold packedS
  rw [if_pos (by rw [List.length_append, hlen]; omega), List.take_append_of_le_length (by omega), List.take_of_length_le (by omega), List.drop_append_of_le_length (by omega), List.drop_of_length_le (by omega), List.nil_append]
  have hu := packB_range (allBits_range W xs)
  have : packedV (packB (allBits W xs)) W = xs := by
    apply List.ext_getElem
    · rw [packedV_length, hl]
    · intro i h1 h2
      simp only [packedV, List.getElem_map, List.getElem_range]
      rw [pkF_eq hu _ _ hW, allBits_val hW xs i h2, List.getD_eq_getElem?_getD, List.getElem?_eq_getElem h2]
      exact fits_back (hx _ (List.getElem_mem h2))
  rw [this]
end Go.Proofs.Ytcdephhplmcmjaa.D13
end

section
namespace Go.Proofs.Ytcdephhplmcmjaa.D13
set_option linter.unusedVariables false
set_option linter.unusedSimpArgs false
open Go.RowKit Go.Proofs.Ytcdephhplmcmjaa.X Go.Proofs.YtcdephhplmcmjaaW.PrintWords Go.Proofs.YtcdephhplmcmjaaW.PrintLast Go.Proofs.YtcdephhplmcmjaaW.PrintMore Go.Proofs.Ytcdephhplmcmjaa.Bx Go.Proofs.Ytcdephhplmcmjaa.Nx Go.Proofs.Ytcdephhplmcmjaa.Px
def inI (x : Int) : Prop := -9223372036854775808 ≤ x ∧ x ≤ 9223372036854775807
theorem wrap_in (x : Int) : inI (wrap64 x) := by unfold inI wrap64; omega
theorem bitLenAux_lt : ∀ (f x : Nat), x < 2 ^ f → x < 2 ^ Lib.bitLenAux f x
  | 0, x, h => by simpa [Lib.bitLenAux] using h
  | f + 1, x, h => by
    unfold Lib.bitLenAux
    split
    · simp; omega
    · have := bitLenAux_lt f (x / 2) (by rw [Nat.pow_succ] at h; omega)
      rw [Nat.add_comm, Nat.pow_succ]
      omega
theorem bitLenAux_top : ∀ (f x : Nat), Lib.bitLenAux f x ≤ f
  | 0, x => by simp [Lib.bitLenAux]
  | f + 1, x => by
    unfold Lib.bitLenAux
    split
    · omega
    · have := bitLenAux_top f (x / 2); omega
theorem W64_range (x : Int) : 0 ≤ W64 x ∧ W64 x ≤ 64 := by
  unfold W64
  have := bitLenAux_top 64 (IntKind.u64.wrap x).toNat
  unfold Lib.bitLen
  omega
theorem W64_lt (x : Int) : (x % 18446744073709551616).toNat < 2 ^ (W64 x).toNat := by
  unfold W64
  rw [u64w]
  exact bitLenAux_lt 64 _ (by omega)
theorem topW_acc (least : Int) : ∀ (xs : List Int) (m : Int), m ≤ xs.foldl (fun m x => max m (W64 (difW least x))) m ∧ (∀ x ∈ xs, W64 (difW least x) ≤ xs.foldl (fun m x => max m (W64 (difW least x))) m) ∧ (0 ≤ m → m ≤ 64 → xs.foldl (fun m x => max m (W64 (difW least x))) m ≤ 64)
  | [], m => ⟨by simp, by simp, fun _ h => by simpa using h⟩
  | x :: xs, m => by
    have ih := topW_acc least xs (max m (W64 (difW least x)))
    have hr := W64_range (difW least x)
    rw [List.foldl_cons]
    refine ⟨by omega, fun y hy => ?_, fun h0 h1 => ih.2.2 (by omega) (by omega)⟩
    rcases List.mem_cons.1 hy with rfl | hy
    · omega
    · exact ih.2.1 y hy
theorem topW_range (least : Int) (xs : List Int) : 0 ≤ topW least xs ∧ topW least xs ≤ 64 := ⟨(topW_acc least xs 0).1, (topW_acc least xs 0).2.2 (by omega) (by omega)⟩
theorem row_fits (least : Int) (xs : List Int) : ∀ x ∈ rowW least xs, fitsW (topW least xs).toNat x := by
  intro x hx
  have hr := topW_range least xs
  unfold rowW at hx
  rcases List.mem_append.1 hx with h | h
  · obtain ⟨y, hy, rfl⟩ := List.mem_map.1 h
    have h1 := (topW_acc least xs 0).2.1 y hy
    have h2 := W64_lt (difW least y)
    have h3 := W64_range (difW least y)
    refine ⟨Nat.lt_of_lt_of_le h2 (Nat.pow_le_pow_right (by decide) ?_), wrap_in _⟩
    have h4 : W64 (difW least y) ≤ topW least xs := h1
    omega
  · obtain ⟨_, rfl⟩ := List.mem_replicate.1 h
    exact ⟨by simpa using Nat.two_pow_pos _, by decide, by decide⟩
def pakB (least : Int) (d : List Int) (i : Nat) : List Int := packB (allBits (topW least (cutW d i)).toNat (rowW least (cutW d i)))
def wsR (least : Int) (d : List Int) : Nat → Nat → List Int
  | 0, _ => []
  | m + 1, i => topW least (cutW d i) :: wsR least d m (i + 1)
def psR (least : Int) (d : List Int) : Nat → Nat → List Int
  | 0, _ => []
  | m + 1, i => pakB least d i ++ psR least d m (i + 1)
theorem wsR_length (least : Int) (d : List Int) : ∀ m i, (wsR least d m i).length = m
  | 0, _ => rfl
  | m + 1, i => by rw [wsR, List.length_cons, wsR_length least d m]
theorem cutW_length (d : List Int) (i : Nat) : (cutW d i).length ≤ 32 := by unfold cutW; rw [List.length_take]; omega
theorem pakB_length (least : Int) (d : List Int) (i : Nat) : (pakB least d i).length = 4 * (topW least (cutW d i)).toNat := by
  unfold pakB
  rw [packB_length, allBits_length, rowW_length least _ (cutW_length d i)]
  omega
theorem psR_length (least : Int) (d : List Int) : ∀ m i, (psR least d m i).length ≤ 256 * m
  | 0, _ => by simp [psR]
  | m + 1, i => by
    have := psR_length least d m (i + 1)
    have := topW_range least (cutW d i)
    rw [psR, List.length_append, pakB_length]
    omega
theorem laidP_eq {k : Nat} (hk : 3000 ≤ k) (least : Int) (d : List Int) : ∀ (m n i : Nat) (ws ps : List Int), (d.length + 31) / 32 = i + m → m < n → ps.length + 256 * m ≤ 100000 → laidP k least d n i ws ps = some (ws ++ wsR least d m i, ps ++ psR least d m i)
  | 0, n, i, ws, ps, h, hn, hp => by
    obtain ⟨n, rfl⟩ : ∃ j, n = j + 1 := ⟨n - 1, by omega⟩
    rw [laidP, if_neg (by omega)]
    simp [wsR, psR]
  | m + 1, n, i, ws, ps, h, hn, hp => by
    obtain ⟨n, rfl⟩ : ∃ j, n = j + 1 := ⟨n - 1, by omega⟩
    have hr := topW_range least (cutW d i)
    have hl := rowW_length least (cutW d i) (cutW_length d i)
    have hpk := pack (k := k) (W := (topW least (cutW d i)).toNat) (ys := rowW least (cutW d i)) (by omega) (by omega) (by
      rw [hl]
      have : 32 * ((topW least (cutW d i)).toNat + 2) ≤ 32 * 66 := Nat.mul_le_mul_left _ (by omega)
      omega)
    rw [show (((topW least (cutW d i)).toNat : Nat) : Int) = topW least (cutW d i) by omega] at hpk
    have hpl := pakB_length least d i
    unfold pakB at hpl
    rw [laidP, if_pos (by omega), hpk, Option.bind_some, if_pos (by rw [List.length_append, hpl]; omega), laidP_eq hk least d m n (i + 1) _ _ (by omega) (by omega) (by rw [List.length_append, hpl]; omega)]
    rw [wsR, psR, show topW least (cutW d i) % 256 = topW least (cutW d i) by omega]
    simp [pakB]
def npW (d : List Int) : Nat := (d.length + 31) / 32
def minD : List Int → Int
  | [] => 0
  | x :: r => r.foldl min x
def blkB (d : List Int) : List Int := vb (zz (minD d)).toNat ++ (wsR (minD d) d (npW d) 0 ++ List.replicate (4 - npW d) 0) ++ psR (minD d) d (npW d) 0
theorem foldl_min_in : ∀ (r : List Int) (x : Int), inI x → (∀ y ∈ r, inI y) → inI (r.foldl min x)
  | [], x, h, _ => h
  | y :: r, x, h, hr => by
    rw [List.foldl_cons]
    refine foldl_min_in r _ ?_ (fun z hz => hr z (by simp [hz]))
    have := hr y (by simp)
    unfold inI at *
    omega
theorem minD_in {d : List Int} (h : ∀ x ∈ d, inI x) : inI (minD d) := by
  cases d with
  | nil => exact ⟨by decide, by decide⟩
  | cons x r => exact foldl_min_in r x (h x (by simp)) (fun y hy => h y (by simp [hy]))
theorem blkB_length {d : List Int} (h : ∀ x ∈ d, inI x) (hn : d.length ≤ 128) : (blkB d).length ≤ 1040 := by
  have h1 := minD_in h
  have hz := zz_range h1.1 h1.2
  have := vb_length64 (n := (zz (minD d)).toNat) (by omega)
  have := psR_length (minD d) d (npW d) 0
  unfold blkB
  rw [List.length_append, List.length_append, List.length_append, wsR_length, List.length_replicate]
  have : npW d ≤ 4 := by unfold npW; omega
  omega
theorem laid_eq {k : Nat} (hk : 3000 ≤ k) {out d : List Int} (h : ∀ x ∈ d, inI x) (h0 : 0 < d.length) (hn : d.length ≤ 128) (ho : out.length ≤ 99999990) : laidF k out d = some (out ++ blkB d) := by
  have hm : slices_Min_int64_int64.f d = some (minD d) := by
    cases d with
    | nil => simp at h0
    | cons x r => rfl
  have h1 := minD_in h
  have hz := zz_range h1.1 h1.2
  have hv := vb_length64 (n := (zz (minD d)).toNat) (by omega)
  have h4 : npW d ≤ 4 := by unfold npW; omega
  unfold laidF
  rw [hm, Option.bind_some, signed (by omega) (by omega) h1.1 h1.2, Option.bind_some, if_pos (by rw [List.length_append]; omega), laidP_eq hk (minD d) d (npW d) 5 0 [] [] (by unfold npW; omega) (by omega) (by simp; omega), Option.bind_some]
  simp only [List.nil_append, wsR_length, blkB, List.append_assoc]
theorem widS_back (n fr : Int) (least : Int) (d : List Int) : ∀ (m z i : Nat) (tl : List Int), (∀ j, j < m → fr + 32 * ((i + j : Nat) : Int) < n) → widS n fr (m + z) i (wsR least d m i ++ List.replicate z 0 ++ tl) = .ok (wsR least d m i ++ List.replicate z 0, tl)
  | 0, 0, i, tl, h => rfl
  | 0, z + 1, i, tl, h => by
    have ih := widS_back n fr least d 0 z (i + 1) tl (fun j hj => absurd hj (by omega))
    rw [show 0 + (z + 1) = (0 + z) + 1 by omega, widS]
    simp only [wsR, List.nil_append, List.replicate_succ, List.cons_append] at ih ⊢
    simp only [byteS, andS_ok]
    rw [if_pos ⟨by omega, .inl (by trivial)⟩, ih, andS_ok]
  | m + 1, z, i, tl, h => by
    have hr := topW_range least (cutW d i)
    have ih := widS_back n fr least d m z (i + 1) tl (fun j hj => by have := h (j + 1) (by omega); rwa [show i + 1 + j = i + (j + 1) by omega])
    rw [show m + 1 + z = (m + z) + 1 by omega, widS]
    simp only [wsR, List.cons_append]
    simp only [byteS, andS_ok]
    have h0 := h 0 (by omega)
    rw [if_pos ⟨hr.2, .inr h0⟩, ih, andS_ok]
def appD (l ds : List Int) : List Int := ds.foldl (fun l d => l ++ [wrap64 (rd l ((l.length : Int) - 1) + d)]) l
theorem appD_append (l a b : List Int) : appD l (a ++ b) = appD (appD l a) b := by unfold appD; rw [List.foldl_append]
theorem appD_length : ∀ (ds l : List Int), (appD l ds).length = l.length + ds.length
  | [], l => by simp [appD]
  | d :: ds, l => by
    have := appD_length ds (l ++ [wrap64 (rd l ((l.length : Int) - 1) + d)])
    unfold appD at *
    rw [List.foldl_cons, this]
    simp; omega
theorem addS_row (n least : Int) : ∀ (cut : List Int) (m : Nat) (l : List Int), (∀ x ∈ cut, inI x) → (l.length : Int) + cut.length ≤ n → (m = 0 ∨ (l.length : Int) + cut.length = n) → addS n least (cut.map (difW least) ++ List.replicate m 0) l = appD l cut
  | [], 0, l, _, _, _ => rfl
  | [], m + 1, l, _, h, hm => by
    have : (l.length : Int) = n := by rcases hm with h | h; omega; simpa using h
    simp only [List.map_nil, List.nil_append, List.replicate_succ, addS, if_pos this]; rfl
  | d :: cut, m, l, hx, h, hm => by
    have hd := hx d (by simp)
    rw [List.length_cons] at h hm
    rw [List.map_cons, List.cons_append, addS, if_neg (by omega)]
    have e : wrap64 (least + difW least d) = d := by
      have := hd.1; have := hd.2
      unfold difW wrap64; omega
    rw [e, addS_row n least cut m _ (fun x hx' => hx x (by simp [hx'])) (by simp; omega) (by simp; omega)]
    rfl
theorem cutW_drop (d : List Int) (i : Nat) : d.drop (32 * i) = cutW d i ++ d.drop (32 * (i + 1)) := by
  unfold cutW
  rw [show 32 * (i + 1) = 32 * i + 32 by omega, ← List.drop_drop, List.take_append_drop]
theorem cutW_len (d : List Int) (i : Nat) : (cutW d i).length = min 32 (d.length - 32 * i) := by unfold cutW; rw [List.length_take, List.length_drop]
theorem partsS_back (n fr least : Int) (d : List Int) (hx : ∀ x ∈ d, inI x) (hn : d.length ≤ 128) : ∀ (m i : Nat) (l tl : List Int), npW d = i + m → (l.length : Int) + (d.length - 32 * i : Nat) ≤ n → fr + d.length ≤ n → (d.length = 128 ∨ fr + d.length = n) → (l.length : Int) + (d.length - 32 * i : Nat) = fr + d.length →
    partsS n fr least (wsR least d m i ++ List.replicate (4 - npW d) 0) i l (psR least d m i ++ tl) = .ok (appD l (d.drop (32 * i)), tl)
  | 0, i, l, tl, hm, h1, h2, h3, h4 => by
    have hd : d.drop (32 * i) = [] := List.drop_of_length_le (by unfold npW at hm; omega)
    rw [hd]
    simp only [wsR, psR, List.nil_append]
    by_cases c : 4 - npW d = 0
    · rw [c]; rfl
    · obtain ⟨z, hz⟩ : ∃ z, 4 - npW d = z + 1 := ⟨4 - npW d - 1, by omega⟩
      rw [hz, List.replicate_succ, partsS, if_pos (by unfold npW at hm hz; omega)]
      rfl
  | m + 1, i, l, tl, hm, h1, h2, h3, h4 => by
    have hr := topW_range least (cutW d i)
    have hcl := cutW_len d i
    have hcx : ∀ x ∈ cutW d i, inI x := fun x h => hx x (List.mem_of_mem_drop (List.mem_of_mem_take h))
    simp only [wsR, psR, List.cons_append, List.append_assoc]
    rw [partsS, if_neg (by unfold npW at hm; omega)]
    have hb := packed_back (W := (topW least (cutW d i)).toNat) (xs := rowW least (cutW d i)) (by omega) (rowW_length least _ (cutW_length d i)) (row_fits least _) (psR least d m (i + 1) ++ tl)
    unfold pakB
    rw [hb, andS_ok]
    have hrow : addS n least (rowW least (cutW d i)) l = appD l (cutW d i) := by
      unfold rowW
      refine addS_row n least _ _ l hcx (by omega) ?_
      unfold npW at hm
      omega
    have hal := appD_length (cutW d i) l
    rw [hrow, partsS_back n fr least d hx hn m (i + 1) (appD l (cutW d i)) tl (by omega) (by unfold npW at hm; omega) h2 h3 (by unfold npW at hm; omega), ← appD_append, ← cutW_drop]
end Go.Proofs.Ytcdephhplmcmjaa.D13
end

section
namespace Go.Proofs.Ytcdephhplmcmjaa.D13
set_option linter.unusedVariables false
set_option linter.unusedSimpArgs false
open Go.RowKit Go.Proofs.Ytcdephhplmcmjaa.X Go.Proofs.YtcdephhplmcmjaaW.PrintWords Go.Proofs.YtcdephhplmcmjaaW.PrintLast Go.Proofs.YtcdephhplmcmjaaW.PrintMore Go.Proofs.Ytcdephhplmcmjaa.Bx Go.Proofs.Ytcdephhplmcmjaa.Nx Go.Proofs.Ytcdephhplmcmjaa.Px
theorem rd_lt (L : List Int) (i : Nat) (h : i < L.length) : rd L (i : Int) = L[i] := by
  unfold rd
  rw [List.getD_eq_getElem?_getD, show ((i : Int)).toNat = i from rfl, List.getElem?_eq_getElem h]; rfl
theorem rd_take (L : List Int) (a i : Nat) (h : i < a) (ha : a ≤ L.length) : rd (L.take a) (i : Int) = rd L (i : Int) := by
  rw [rd_lt _ i (by rw [List.length_take]; omega), rd_lt L i (by omega), List.getElem_take]
theorem take_snoc (L : List Int) (a : Nat) (h : a < L.length) : L.take (a + 1) = L.take a ++ [rd L (a : Int)] := by
  rw [List.take_succ_eq_append_getElem h, rd_lt L a h]
theorem difs_back (L : List Int) (hx : ∀ x ∈ L, inI x) (a : Nat) (ha : 1 ≤ a) : ∀ m, a + m ≤ L.length → appD (L.take a) (difD L a m) = L.take (a + m)
  | 0, h => rfl
  | m + 1, h => by
    have ih := difs_back L hx a ha m (by omega)
    rw [difD_succ, appD_append, ih]
    show L.take (a + m) ++ [wrap64 (rd (L.take (a + m)) (((L.take (a + m)).length : Int) - 1) + wrap64 (rd L ((a : Int) + (m : Int)) - rd L ((a : Int) + (m : Int) - 1)))] = _
    have hl : (L.take (a + m)).length = a + m := by rw [List.length_take]; omega
    have e1 : (((L.take (a + m)).length : Int) - 1) = ((a + m - 1 : Nat) : Int) := by rw [hl]; omega
    have e2 : (a : Int) + (m : Int) = ((a + m : Nat) : Int) := by omega
    have e3 : (a : Int) + (m : Int) - 1 = ((a + m - 1 : Nat) : Int) := by omega
    rw [e3, e2, e1, rd_take L _ _ (by omega) (by omega), show a + (m + 1) = (a + m) + 1 by omega, take_snoc L (a + m) (by omega)]
    have hi := hx _ (List.getElem_mem (show a + m < L.length by omega))
    rw [← rd_lt L (a + m) (by omega)] at hi
    generalize rd L ((a + m : Nat) : Int) = u at *
    generalize rd L ((a + m - 1 : Nat) : Int) = v
    congr 2
    obtain ⟨h1, h2⟩ := hi
    unfold wrap64
    omega
theorem difD_in (L : List Int) (a : Int) (m : Nat) : ∀ x ∈ difD L a m, inI x := by
  intro x hx
  obtain ⟨j, _, rfl⟩ := List.mem_map.1 hx
  exact wrap_in _
theorem loop_back (L : List Int) (hx : ∀ x ∈ L, inI x) : ∀ (dd kk fr : Nat) (tl : List Int), 1 ≤ fr → (L.length : Int) - fr < 128 * dd → (L.length : Int) - fr < 128 * kk →
    loopS (L.length : Int) kk (fr : Int) (L.take fr) ((blksD L dd fr).flatMap blkB ++ tl) = .ok (L, tl)
  | 0, kk, fr, tl, h1, h2, h3 => by
    have hL : L.take fr = L := List.take_of_length_le (by omega)
    rw [hL]
    cases kk with
    | zero => rfl
    | succ kk => rw [loopS, if_neg (by omega)]; rfl
  | dd + 1, kk, fr, tl, h1, h2, h3 => by
    by_cases c : (fr : Int) < (L.length : Int)
    · obtain ⟨kk, rfl⟩ : ∃ j, kk = j + 1 := ⟨kk - 1, by omega⟩
      obtain ⟨m, hm⟩ : ∃ m, m = (min (L.length : Int) ((fr : Int) + 128) - (fr : Int)).toNat := ⟨_, rfl⟩
      obtain ⟨T, hT⟩ : ∃ T, T = (blksD L dd (fr + 128)).flatMap blkB ++ tl := ⟨_, rfl⟩
      rw [blksD, if_pos c, ← hm, List.flatMap_cons, loopS, if_pos c, List.append_assoc, ← hT]
      have hd := difD_in L fr m
      have hdl := difD_length L fr m
      have hmin := minD_in hd
      unfold blkB
      simp only [List.append_assoc]
      rw [signed_back hmin.1 hmin.2, andS_ok]
      have hw := widS_back (L.length : Int) fr (minD (difD L fr m)) (difD L fr m) (npW (difD L fr m)) (4 - npW (difD L fr m)) 0
      have hnp : npW (difD L fr m) ≤ 4 := by unfold npW; omega
      rw [show npW (difD L fr m) + (4 - npW (difD L fr m)) = 4 by omega] at hw
      have hw2 := hw (psR (minD (difD L fr m)) (difD L fr m) (npW (difD L fr m)) 0 ++ T) (fun j hj => by unfold npW at hj; omega)
      simp only [List.append_assoc] at hw2
      have hblk : ((fr : Int) + 128) = ((fr + 128 : Nat) : Int) := by omega
      rw [hw2, andS_ok]
      have hp := partsS_back (L.length : Int) fr (minD (difD L fr m)) (difD L fr m) hd (by omega) (npW (difD L fr m)) 0 (L.take fr) T (by omega) (by rw [List.length_take]; omega) (by omega) (by omega) (by rw [List.length_take]; omega)
      rw [hp, andS_ok, Nat.mul_zero, List.drop_zero, difs_back L hx fr h1 m (by omega)]
      have ht : L.take (fr + m) = L.take (fr + 128) := by
        by_cases e : m = 128
        · rw [e]
        · rw [List.take_of_length_le (by omega), List.take_of_length_le (by omega)]
      rw [ht, hT, hblk]
      exact loop_back L hx dd kk (fr + 128) tl (by omega) (by omega) (by omega)
    · have hL : L.take fr = L := List.take_of_length_le (by omega)
      rw [hL, blksD, if_neg c]
      cases kk with
      | zero => rfl
      | succ kk => rw [loopS, if_neg (by omega)]; rfl
def listB (L : List Int) : List Int := [128, 1, 4] ++ (vb L.length ++ if L.length = 0 then [0] else vb (zz (rd L 0)).toNat ++ (allD L).flatMap blkB)
theorem blksD_ok (L : List Int) : ∀ (dd : Nat) (at_ : Int), ∀ d ∈ blksD L dd at_, (∀ x ∈ d, inI x) ∧ 0 < d.length ∧ d.length ≤ 128
  | 0, _, d, h => by cases h
  | dd + 1, at_, d, h => by
    rw [blksD] at h
    split at h
    · rcases List.mem_cons.1 h with rfl | h
      · exact ⟨difD_in _ _ _, by rw [difD_length]; omega, by rw [difD_length]; omega⟩
      · exact blksD_ok L dd _ d h
    · cases h
theorem blksD_count (L : List Int) : ∀ (dd : Nat) (at_ : Int), (blksD L dd at_).length ≤ dd
  | 0, _ => Nat.le_refl _
  | dd + 1, at_ => by
    rw [blksD]
    split
    · rw [List.length_cons]; exact Nat.succ_le_succ (blksD_count L dd _)
    · simp
theorem laids_eq {k : Nat} (hk : 3000 ≤ k) : ∀ (ds : List (List Int)) (out : List Int), (∀ d ∈ ds, (∀ x ∈ d, inI x) ∧ 0 < d.length ∧ d.length ≤ 128) → out.length + 1040 * ds.length ≤ 99999990 → ds.foldlM (laidF k) out = some (out ++ ds.flatMap blkB)
  | [], out, _, _ => by simp
  | d :: ds, out, h, hl => by
    obtain ⟨h1, h2, h3⟩ := h d (by simp)
    have hb := blkB_length h1 h3
    rw [List.length_cons] at hl
    rw [List.foldlM_cons, laid_eq hk h1 h2 h3 (by omega)]
    show ds.foldlM (laidF k) (out ++ blkB d) = _
    rw [laids_eq hk ds _ (fun d hd => h d (by simp [hd])) (by rw [List.length_append]; omega)]
    simp
theorem rd0_in {L : List Int} (hx : ∀ x ∈ L, inI x) : inI (rd L 0) := by
  cases L with
  | nil => exact ⟨by decide, by decide⟩
  | cons x L => exact hx x (by simp)
theorem writeB_eq {k : Nat} (hk : 3000 ≤ k) {L : List Int} (hx : ∀ x ∈ L, inI x) (hl : L.length ≤ 65536) : writeB k L = some (listB L) := by
  have h0 := rd0_in hx
  have hz := zz_range h0.1 h0.2
  have hv := vb_length64 (n := (zz (rd L 0)).toNat) (by omega)
  have hv2 := vb_length64 (n := L.length) (by omega)
  have hn := number (k := k) (acc := [128, 1, 4]) (x := (L.length : Int)) (by omega) (by simp) (by omega) (by omega)
  rw [show ((L.length : Int)).toNat = L.length from rfl] at hn
  unfold writeB listB
  rw [hn, Option.bind_some]
  by_cases c : L.length = 0
  · rw [if_pos c, if_pos c]; simp
  · have hc := blksD_count L 600 1
    rw [if_neg c, if_neg c, signed (by omega) (by rw [List.length_append, List.length_cons, List.length_cons, List.length_cons, List.length_nil]; omega) h0.1 h0.2, Option.bind_some, laids_eq hk (allD L) _ (blksD_ok L 600 1) (by
      simp only [List.length_append, List.length_cons, List.length_nil]
      have : (allD L).length ≤ 600 := hc
      omega)]
    simp only [List.append_assoc]
theorem list_back {L : List Int} (hx : ∀ x ∈ L, inI x) (hl : L.length ≤ 65536) (tl : List Int) : listS (listB L ++ tl) = .ok (L, tl) := by
  have h0 := rd0_in hx
  have hz := zz_range h0.1 h0.2
  have e128 : vb 128 = [128, 1] := by rw [vb_big (by omega), vb_small (by omega)]; rfl
  have e4 : vb 4 = [4] := by rw [vb_small (by omega)]; rfl
  have e0 : vb 0 = [0] := by rw [vb_small (by omega)]; rfl
  have eh : ([128, 1, 4] : List Int) = vb 128 ++ vb 4 := by rw [e128, e4]; rfl
  unfold listB listS wantS
  rw [eh]
  simp only [List.append_assoc]
  rw [numS_back (by omega), andS_ok, if_pos (by rfl)]
  rw [numS_back (by omega), andS_ok, if_pos (by rfl)]
  unfold tailS
  rw [numS_back (by omega), andS_ok, if_pos (by omega)]
  by_cases c : L.length = 0
  · rw [if_pos c]
    have hL : L = [] := List.length_eq_zero_iff.1 c
    subst hL
    have es : mapS sgnV (numS 0 0 ([0] ++ tl)) = .ok ((0 : Int), tl) := by
      have := signed_back (y := 0) (by omega) (by omega) tl
      rw [show (zz 0).toNat = 0 by decide, e0] at this
      exact this
    rw [es, andS_ok, if_pos (.inr rfl), if_pos (by rfl)]
  · rw [if_neg c]
    simp only [List.append_assoc]
    rw [signed_back h0.1 h0.2, andS_ok, if_pos (.inl (by omega)), if_neg (by omega)]
    have hf : [rd L 0] = L.take 1 := by
      have := take_snoc L 0 (by omega)
      rw [this]; rfl
    rw [hf]
    have := loop_back L hx 600 513 1 tl (by omega) (by omega) (by omega)
    exact this
theorem wsR_range (least : Int) (d : List Int) : ∀ (m i : Nat), ∀ x ∈ wsR least d m i, 0 ≤ x ∧ x ≤ 255
  | 0, _, x, h => by cases h
  | m + 1, i, x, h => by
    have := topW_range least (cutW d i)
    rcases List.mem_cons.1 h with rfl | h
    · omega
    · exact wsR_range least d m _ x h
theorem psR_range (least : Int) (d : List Int) : ∀ (m i : Nat), ∀ x ∈ psR least d m i, 0 ≤ x ∧ x ≤ 255
  | 0, _, x, h => by cases h
  | m + 1, i, x, h => by
    rcases List.mem_append.1 h with h | h
    · exact packB_range (allBits_range _ _) x h
    · exact psR_range least d m _ x h
theorem blkB_range (d : List Int) : ∀ x ∈ blkB d, 0 ≤ x ∧ x ≤ 255 := by
  intro x h
  unfold blkB at h
  rcases List.mem_append.1 h with h | h
  · rcases List.mem_append.1 h with h | h
    · exact vb_range _ x h
    · rcases List.mem_append.1 h with h | h
      · exact wsR_range _ _ _ _ x h
      · obtain ⟨_, rfl⟩ := List.mem_replicate.1 h; omega
  · exact psR_range _ _ _ _ x h
theorem listB_range (L : List Int) : ∀ x ∈ listB L, 0 ≤ x ∧ x ≤ 255 := by
  intro x h
  unfold listB at h
  rcases List.mem_append.1 h with h | h
  · simp at h; omega
  rcases List.mem_append.1 h with h | h
  · exact vb_range _ x h
  split at h
  · simp at h; omega
  · rcases List.mem_append.1 h with h | h
    · exact vb_range _ x h
    · obtain ⟨d, _, hd⟩ := List.mem_flatMap.1 h
      exact blkB_range d x hd
theorem listB_five {L : List Int} (hx : ∀ x ∈ L, inI x) (hl : L.length ≤ 65536) : 5 ≤ (listB L).length := by
  have h0 := rd0_in hx
  have hz := zz_range h0.1 h0.2
  have hv := vb_length64 (n := (zz (rd L 0)).toNat) (by omega)
  have hv2 := vb_length64 (n := L.length) (by omega)
  unfold listB
  split
  · simp only [List.length_append, List.length_cons, List.length_nil]; omega
  · simp only [List.length_append, List.length_cons, List.length_nil]; omega
theorem flat_short : ∀ (ds : List (List Int)), (∀ d ∈ ds, (∀ x ∈ d, inI x) ∧ 0 < d.length ∧ d.length ≤ 128) → (ds.flatMap blkB).length ≤ 1040 * ds.length
  | [], _ => by simp
  | d :: ds, h => by
    obtain ⟨h1, h2, h3⟩ := h d (by simp)
    have := blkB_length h1 h3
    have := flat_short ds (fun d hd => h d (by simp [hd]))
    rw [List.flatMap_cons, List.length_append, List.length_cons]
    omega
theorem listB_short {L : List Int} (hx : ∀ x ∈ L, inI x) (hl : L.length ≤ 65536) : (listB L).length ≤ 700000 := by
  have h0 := rd0_in hx
  have hz := zz_range h0.1 h0.2
  have hv := vb_length64 (n := (zz (rd L 0)).toNat) (by omega)
  have hv2 := vb_length64 (n := L.length) (by omega)
  have h3 := flat_short (allD L) (blksD_ok L 600 1)
  have h4 : (allD L).length ≤ 600 := blksD_count L 600 1
  unfold listB
  split
  · simp only [List.length_append, List.length_cons, List.length_nil]; omega
  · simp only [List.length_append, List.length_cons, List.length_nil]; omega
theorem write_eq {k : Nat} (hk : 3000 ≤ k) {L : List Int} (hx : ∀ x ∈ L, inI x) (hl : L.length ≤ 65536) : delta_Write.f k L = some (listB L, 0) := by
  unfold delta_Write.f
  rw [if_neg (by omega), writeB_eq hk hx hl]; rfl
theorem addS_in (n least : Int) : ∀ (xs l : List Int), (∀ x ∈ l, inI x) → ∀ x ∈ addS n least xs l, inI x
  | [], l, h => h
  | y :: xs, l, h => by
    rw [addS]
    split
    · exact h
    · refine addS_in n least xs _ fun x hx => ?_
      rcases List.mem_append.1 hx with hx | hx
      · exact h x hx
      · rw [List.mem_singleton.1 hx]; exact wrap_in _
theorem andS_inv {α β : Type} {r : Except Int (α × List Int)} {k : α → List Int → Except Int (β × List Int)} {v : β} {b : List Int} (h : andS r k = .ok (v, b)) : ∃ v1 b1, r = .ok (v1, b1) ∧ k v1 b1 = .ok (v, b) := by
  cases r with
  | error x => rw [andS_err] at h; cases h
  | ok p => exact ⟨p.1, p.2, rfl, h⟩
theorem partsS_in (n fr least : Int) : ∀ (ws : List Int) (i : Nat) (l b l' r : List Int), (∀ x ∈ l, inI x) → partsS n fr least ws i l b = .ok (l', r) → ∀ x ∈ l', inI x
  | [], i, l, b, l', r, hl, h => by
    obtain ⟨rfl, _⟩ : l = l' ∧ b = r := by simpa [partsS] using h
    exact hl
  | w :: ws, i, l, b, l', r, hl, h => by
    rw [partsS] at h
    split at h
    · obtain ⟨rfl, _⟩ : l = l' ∧ b = r := by simpa using h
      exact hl
    · obtain ⟨v1, b1, _, h⟩ := andS_inv h
      exact partsS_in n fr least ws _ _ _ l' r (addS_in n least v1 l hl) h
theorem loopS_in (n : Int) : ∀ (k : Nat) (fr : Int) (l b l' r : List Int), (∀ x ∈ l, inI x) → loopS n k fr l b = .ok (l', r) → ∀ x ∈ l', inI x
  | 0, fr, l, b, l', r, hl, h => by
    obtain ⟨rfl, _⟩ : l = l' ∧ b = r := by simpa [loopS] using h
    exact hl
  | k + 1, fr, l, b, l', r, hl, h => by
    rw [loopS] at h
    split at h
    · obtain ⟨v1, b1, _, h⟩ := andS_inv h
      obtain ⟨v2, b2, _, h⟩ := andS_inv h
      obtain ⟨v3, b3, h3, h⟩ := andS_inv h
      exact loopS_in n k _ v3 b3 l' r (partsS_in n fr _ _ _ _ _ _ _ hl h3) h
    · obtain ⟨rfl, _⟩ : l = l' ∧ b = r := by simpa using h
      exact hl
theorem sgnV_in (n : Int) : inI (sgnV n) := by
  unfold sgnV
  show inI (IntKind.i64.wrap _)
  rw [IntKind.wrap_i64]
  unfold inI
  omega
theorem mapS_inv {α β : Type} {f : α → β} {r : Except Int (α × List Int)} {v : β} {b : List Int} (h : mapS f r = .ok (v, b)) : ∃ v1, v = f v1 := by
  cases r with
  | error x => simp [mapS] at h
  | ok p => simp [mapS] at h; exact ⟨p.1, h.1.symm⟩
theorem listS_in {b l r : List Int} (h : listS b = .ok (l, r)) : ∀ x ∈ l, inI x := by
  unfold listS wantS at h
  obtain ⟨v1, b1, _, h⟩ := andS_inv h
  split at h
  · obtain ⟨v2, b2, _, h⟩ := andS_inv h
    split at h
    · unfold tailS at h
      obtain ⟨v3, b3, _, h⟩ := andS_inv h
      split at h
      · obtain ⟨v4, b4, h4, h⟩ := andS_inv h
        split at h
        · split at h
          · obtain ⟨rfl, _⟩ : [] = l ∧ b4 = r := by simpa using h
            simp
          · obtain ⟨y, rfl⟩ := mapS_inv h4
            refine loopS_in _ _ _ _ _ _ _ (fun x hx => ?_) h
            rw [List.mem_singleton.1 hx]
            exact sgnV_in y
        · cases h
      · cases h
    · cases h
  · cases h
def beginR (b : List Int) : List Int × Int × Int :=
  match listS b with
  | .error x => ([], 0, x)
  | .ok (l, r) => if (strOfNums (listB l)).toList = (strOfNums (b.take (b.length - r.length))).toList then (l, ((b.length - r.length : Nat) : Int), 0) else ([], 0, 8)
theorem begin_eq {k : Nat} (hk : 3000 ≤ k) {b : List Int} (hu : ∀ x ∈ b, 0 ≤ x ∧ x ≤ 255) : delta_Begin.f k b = some (beginR b) := by
  unfold delta_Begin.f
  rw [if_pos (u8All_iff.2 hu)]
  unfold beginF beginR
  cases h : listS b with
  | error x => rfl
  | ok p =>
    obtain ⟨l, r⟩ := p
    simp only []
    rw [writeB_eq hk (listS_in h) (listS_len h), Option.bind_some]
    unfold bytes_Equal.f
    rw [Option.bind_some]
    by_cases c : (strOfNums (listB l)).toList = (strOfNums (b.take (b.length - r.length))).toList
    · rw [if_pos c, if_pos (by simp [c])]
    · rw [if_neg c, if_neg (by simp [c])]
theorem begin_back {L : List Int} (hx : ∀ x ∈ L, inI x) (hl : L.length ≤ 65536) (tl : List Int) : beginR (listB L ++ tl) = (L, ((listB L).length : Int), 0) := by
  unfold beginR
  rw [list_back hx hl]
  simp only []
  have e : (listB L ++ tl).length - tl.length = (listB L).length := by rw [List.length_append]; omega
  rw [e, List.take_left', if_pos rfl]
  rfl
end Go.Proofs.Ytcdephhplmcmjaa.D13
end

section
namespace Go.Proofs.Ytcdephhplmcmjaa.X
open Go.RowKit Go.Proofs.YtcdephhplmcmjaaW.PrintWords Go.Proofs.YtcdephhplmcmjaaW.PrintLast Go.Proofs.YtcdephhplmcmjaaW.PrintMore
set_option linter.unusedVariables false
set_option linter.unusedSimpArgs false
def lensZ (l : List ByteArray) : List Int := l.map fun s => (s.size : Int)
def flatZ (l : List ByteArray) : List Int := l.flatMap bytesOf
def totZ : List ByteArray → Nat
  | [] => 0
  | s :: l => s.size + totZ l
theorem flatZ_length : ∀ l : List ByteArray, (flatZ l).length = totZ l
  | [] => rfl
  | s :: l => by
    have h := flatZ_length l
    unfold flatZ at h ⊢
    rw [List.flatMap_cons, List.length_append, bytesOf_length, h, totZ]
theorem lensZ_length (l : List ByteArray) : (lensZ l).length = l.length := by simp [lensZ]
theorem lensZ_take (l : List ByteArray) (i : Nat) (s : ByteArray) (h : l[i]? = some s) : lensZ (l.take (i + 1)) = lensZ (l.take i) ++ [(s.size : Int)] := by
  rw [List.take_add_one, h]
  simp [lensZ]
theorem flatZ_take (l : List ByteArray) (i : Nat) (s : ByteArray) (h : l[i]? = some s) : flatZ (l.take (i + 1)) = flatZ (l.take i) ++ bytesOf s := by
  rw [List.take_add_one, h]
  simp [flatZ]
theorem totZ_append : ∀ (l m : List ByteArray), totZ (l ++ m) = totZ l + totZ m
  | [], m => by simp [totZ]
  | s :: l, m => by rw [List.cons_append, totZ, totZ, totZ_append l m]; omega
theorem totZ_take (l : List ByteArray) (i : Nat) : totZ (l.take i) ≤ totZ l := by
  conv => rhs; rw [← List.take_append_drop i l, totZ_append]
  omega
theorem totZ_at {l : List ByteArray} {i : Nat} {s : ByteArray} (h : l[i]? = some s) : totZ (l.take i) + s.size ≤ totZ l := by
  have h1 := totZ_take l (i + 1)
  rw [List.take_add_one, h, totZ_append] at h1
  simp only [Option.toList, totZ] at h1
  omega
theorem lensZ_in (l : List ByteArray) (h : totZ l ≤ 4000000000) : ∀ x ∈ lensZ l, 0 ≤ x ∧ x ≤ 4000000000 := by
  induction l with
  | nil => intro x hx; cases hx
  | cons s l ih =>
    intro x hx
    rw [totZ] at h
    rcases List.mem_cons.1 hx with rfl | hx
    · show 0 ≤ (s.size : Int) ∧ (s.size : Int) ≤ _
      omega
    · exact ih (by omega) x hx
theorem rdOf_some {l : List ByteArray} {i : Nat} {s : ByteArray} (h : l[i]? = some s) : rdOf ByteArray.empty l (i : Int) = s := by
  unfold rdOf
  simp [List.getD_eq_getElem?_getD, h]
theorem str_at {w : World} {A : Option Addr} {n : Nat} {l : List ByteArray} (h : Kd.C Kd.string w A n l) {i : Nat} {s : ByteArray} (hs : l[i]? = some s) : ∃ ad, A = some ad ∧ w.cell? (ad.add i) = some (.string s) := by
  have hl := Kd.C_len h
  have hi := (List.getElem?_eq_some_iff.1 hs).1
  obtain ⟨ad, e, hc⟩ := Kd.at_string h (i : Int) (by omega) (by omega)
  rw [rdOf_some hs] at hc
  exact ⟨ad, e, hc⟩
theorem len_one (s : ByteArray) (w : World) : Calls Try.prog 29 #[.string s] w fun e w' => e = .returned (.int .i64 s.size) ∧ w' = w := by
  go_enter Try.func29, Try.ntmps29
  go_wp2
  go_ret
  exact ⟨rfl, rfl⟩
set_option maxHeartbeats 1000000 in
theorem nums_str (A : Option Addr) (c : Nat) (l : List ByteArray) (w : World) (hC : Kd.C Kd.string w A l.length l) (hc : l.length ≤ c) (hl : l.length ≤ 100000) :
    Calls Try.prog 28 #[.slice A l.length c, .func (.func 29) #[] #[]] w fun e w' => ∃ v, e = .returned v ∧ w'.ownsRow w.heap.size 2 1 v (lensZ l).length (nums .i64 (lensZ l)) ∧ Below w.heap.size w w' := by
  have HC := Aside0.mk hC
  have HL1 := Aside0.mk len_one
  have hlw : l.length ≤ 9223372036854775807 := by omega
  clear hC
  go_enter Try.func28, Try.ntmps28
  go_wp2
  go_loopw [5, 10] (fun v5 v10 wr => ∃ i : Nat, v10 = .int .i64 i ∧ i ≤ l.length ∧ Aside0 (wr.ownsRow w.heap.size 2 1 v5 (lensZ (l.take i)).length (nums .i64 (lensZ (l.take i)))) ∧ Aside0 (Below w.heap.size w wr)) (fun _ v10 _ => 100000 - (intOf v10).toNat)
  case atStart => exact ⟨0, rfl, by omega, ⟨World.ownsRow_nil _ _ _ _⟩, ⟨Below.refl _ _⟩⟩
  case round =>
    obtain ⟨i, rfl, hi, HO, HB⟩ := hrel
    obtain ⟨Ao, co, rfl⟩ := own_formD HO.out
    by_cases c1 : i < l.length
    · have q1 : decide ((i : Int) < (l.length : Int)) = true := decide_eq_true (by omega)
      have q2 : decide (i < l.length) = true := decide_eq_true c1
      obtain ⟨s, hs⟩ : ∃ s, l[i]? = some s := ⟨_, List.getElem?_eq_getElem c1⟩
      obtain ⟨ad, rfl, hcell⟩ := str_at (Kd.C_below HC.out HB.out) hs
      have p1 : (0 : Int) ≤ (i : Int) := by omega
      have p2 : (i : Int) < (l.length : Int) := by omega
      have p3 : ((i : Int)).toNat = i := rfl
      have hw1 : IntKind.i64.wrap ((i : Int) + 1) = (i : Int) + 1 := IntWalk.i64_in _ (by omega)
      have HT := Aside0.mk (lensZ_take l i s hs)
      have HTL := Aside0.mk (show (lensZ (l.take i)).length ≤ 100000 from by rw [lensZ_length, List.length_take]; omega)
      have HS := Aside0.mk HB.out.size
      have Hi := Aside0.mk c1
      obtain ⟨xs, hxs⟩ : ∃ xs, xs = lensZ (l.take i) := ⟨_, rfl⟩
      rw [← hxs] at HO HT HTL ⊢
      clear hs hxs hi c1
      go_wp2_with (first
        | (go_at_call 29; refine (HL1.out _ _).mono ?_; rintro e W1 ⟨rfl, rfl⟩)
        | ((with_reducible refine gate_builtin (b := .append) (xs := #[.tmp 14, .tmp 18]) rfl ?_); at_builtin; refine print_append_num (w0 := w) w.heap.size rfl (.tmp 14) (.tmp 18) 44 2 .i64 8 rfl Try.underlying44 dl_info (by decide) _ xs (s.size : Int) rfl rfl HO.out HB.out HS.out (by have := HTL.out; omega) ?_; intro v2 w2 ho2 hb2 hg2 hat2; have HO5 := Aside0.mk ho2; have HB5 := Aside0.mk hb2; clear ho2 hb2 hg2 hat2))
      go_roundw
      case rel => exact ⟨i + 1, by go_num, Hi.out, ⟨by rw [HT.out]; exact HO5.out⟩, HB5⟩
      case measure => have := Hi.out; simp [intOf]; omega
    · have q1 : decide ((i : Int) < (l.length : Int)) = false := decide_eq_false (by omega)
      have q2 : decide (i < l.length) = false := decide_eq_false c1
      rw [show l.take i = l from List.take_of_length_le (by omega)] at HO ⊢
      clear hi c1
      go_wp2
      go_ret
      exact ⟨_, rfl, HO.out, HB.out⟩
def capZ : List ByteArray → Nat
  | [] => 0
  | s :: l => min s.size 1048577 + capZ l
theorem capZ_le : ∀ l : List ByteArray, capZ l ≤ totZ l
  | [] => Nat.le_refl _
  | s :: l => by have := capZ_le l; rw [capZ, totZ]; omega
theorem capZ_gt : ∀ l : List ByteArray, 1048576 < totZ l → 1048576 < capZ l ∨ capZ l = totZ l
  | [], h => by simp [totZ] at h
  | s :: l, h => by
    rw [capZ, totZ]
    rw [totZ] at h
    by_cases c : 1048577 ≤ s.size
    · left; omega
    · by_cases c2 : 1048576 < totZ l
      · rcases capZ_gt l c2 with h2 | h2
        · left; omega
        · right; omega
      · right
        have := capZ_small l (by omega)
        omega
where
  capZ_small : ∀ l : List ByteArray, totZ l ≤ 1048576 → capZ l = totZ l
    | [], _ => rfl
    | s :: l, h => by
      rw [totZ] at h
      have := capZ_small l (by omega)
      rw [capZ, totZ]; omega
theorem capZ_iff (l : List ByteArray) : 1048576 < capZ l ↔ 1048576 < totZ l := by
  have h1 := capZ_le l
  constructor
  · intro h; omega
  · intro h
    rcases capZ_gt l h with h2 | h2 <;> omega
def longZ (l : List ByteArray) : Bool := decide (1048576 < totZ l ∨ 65536 < l.length)
theorem long_l0 (l : List ByteArray) (hl : l.length ≤ 100000) : ∀ (d i k : Nat) (acc : Nat), i + d = l.length → d < k → acc ≤ i * 1048577 → strings_long.l0 k l (acc : Int) l (l.length : Int) (i : Int) = some (decide (1048576 < acc + capZ (l.drop i) ∨ 65536 < l.length))
  | 0, i, k, acc, h, hk, ha => by
    obtain ⟨k, rfl⟩ : ∃ j, k = j + 1 := ⟨k - 1, by omega⟩
    rw [strings_long.l0, if_neg (by omega), List.drop_of_length_le (by omega), capZ]
    by_cases c : acc > 1048576
    · rw [if_pos (by omega), decide_eq_true (.inl (by omega))]
    · rw [if_neg (by omega)]
      congr 1
      exact decide_eq_decide.2 ⟨fun h => .inr (by omega), fun h => by omega⟩
  | d + 1, i, k, acc, h, hk, ha => by
    obtain ⟨k, rfl⟩ : ∃ j, k = j + 1 := ⟨k - 1, by omega⟩
    obtain ⟨s, hs⟩ : ∃ s, l[i]? = some s := ⟨_, List.getElem?_eq_getElem (by omega)⟩
    obtain ⟨hlt, hge⟩ := List.getElem?_eq_some_iff.1 hs
    have hm : mn (s.size : Int) 1048577 = ((min s.size 1048577 : Nat) : Int) := by unfold mn; split <;> omega
    have hle : min s.size 1048577 ≤ 1048577 := Nat.min_le_right _ _
    have hmul : (i + 1) * 1048577 = i * 1048577 + 1048577 := by omega
    have hw : wrap64 ((acc : Int) + ((min s.size 1048577 : Nat) : Int)) = ((acc + min s.size 1048577 : Nat) : Int) := by
      rw [Bx.w64 (by omega) (by omega)]; omega
    have hw2 : wrap64 ((i : Int) + 1) = ((i + 1 : Nat) : Int) := by rw [Bx.w64 (by omega) (by omega)]; omega
    rw [strings_long.l0, if_pos (by omega), if_pos (by omega), if_pos (by omega), rdOf_some hs, hm, hw, hw2, long_l0 l hl d (i + 1) k _ (by omega) (by omega) (by omega), List.drop_eq_getElem_cons hlt, hge, capZ]
    congr 1
    exact decide_eq_decide.2 (by omega)
theorem long_eq {k : Nat} {l : List ByteArray} (hl : l.length ≤ 100000) (hk : l.length < k) : strings_long.f k l = some (longZ l) := by
  have h := long_l0 l hl l.length 0 k 0 (by omega) hk (by omega)
  unfold strings_long.f
  rw [show (0 : Int) = ((0 : Nat) : Int) from rfl, h]
  unfold longZ
  congr 1
  rw [List.drop_zero, Nat.zero_add]
  exact decide_eq_decide.2 (by rw [capZ_iff])
theorem longZ_no {l : List ByteArray} (h : longZ l = false) : totZ l ≤ 1048576 ∧ l.length ≤ 65536 := by
  have := of_decide_eq_false h
  omega
def lengthsZ (l : List ByteArray) : List Int × Int := if longZ l then ([], 3) else (D13.listB (lensZ l) ++ flatZ l, 0)
theorem lengthsZ_long {l : List ByteArray} (h : longZ l = true) : lengthsZ l = ([], 3) := by unfold lengthsZ; rw [if_pos h]
theorem lengthsZ_fine {l : List ByteArray} (h : longZ l = false) : lengthsZ l = (D13.listB (lensZ l) ++ flatZ l, 0) := by unfold lengthsZ; rw [if_neg (by rw [h]; decide)]
theorem lensZ_inI {l : List ByteArray} (h : totZ l ≤ 4000000000) : ∀ x ∈ lensZ l, D13.inI x := fun x hx => by have := lensZ_in l h x hx; unfold D13.inI; omega
set_option maxHeartbeats 2000000 in
theorem lengths_all (A : Option Addr) (c : Nat) (l : List ByteArray) (w : World) (hC : Kd.C Kd.string w A l.length l) (hc : l.length ≤ c) (hl : l.length ≤ 100000) :
    Calls Try.prog 12 #[.slice A l.length c] w fun e w' => ∃ v, e = .returned (.tuple #[v, .int .i64 (lengthsZ l).2]) ∧ w'.ownsRow w.heap.size 5 1 v (lengthsZ l).1.length (nums .u8 (lengthsZ l).1) ∧ Below w.heap.size w w' := by
  have HC := Aside0.mk hC
  have HLO := Aside0.mk (strings_long.calls 100001 A c l (longZ l) w hC hc (long_eq hl (by omega)))
  by_cases hlo : longZ l = true
  · rw [lengthsZ_long hlo]
    rw [hlo] at HLO
    clear hC hlo hl
    go_enter Try.func12, Try.ntmps12
    go_wp2_with fail
    refine HLO.out.mono ?_
    rintro e W1 ⟨rfl, hb1⟩
    have HB1 := Aside0.mk hb1
    clear hb1
    go_wp2
    go_ret2
    exact ⟨_, rfl, World.ownsRow_nil _ _ _ _, HB1.out⟩
  · have hlo : longZ l = false := by simpa using hlo
    rw [lengthsZ_fine hlo]
    rw [hlo] at HLO
    obtain ⟨ht, hl2⟩ := longZ_no hlo
    have HT := Aside0.mk ht
    have HL2 := Aside0.mk hl2
    have HN := Aside0.mk (fun (W : World) (h : Kd.C Kd.string W A l.length l) => nums_str A c l W h hc hl)
    have HW := Aside0.mk (fun (W : World) (A1 : Option Addr) (c1 : Nat) (h : Kd.C (Kd.int .i64) W A1 (lensZ l).length (lensZ l)) (hc1 : (lensZ l).length ≤ c1) => delta_Write.calls 3000 A1 c1 (lensZ l) (D13.listB (lensZ l)) 0 W h hc1 (D13.write_eq (by omega) (lensZ_inI (by omega)) (by rw [lensZ_length]; omega)))
    obtain ⟨lb, hlb⟩ : ∃ lb, lb = D13.listB (lensZ l) := ⟨_, rfl⟩
    have HLB := Aside0.mk (show lb.length ≤ 100000000 from by rw [hlb]; have := D13.listB_short (lensZ_inI (l := l) (by omega)) (by rw [lensZ_length]; omega); omega)
    rw [← hlb] at HW ⊢
    obtain ⟨ls, hls⟩ : ∃ ls, ls = lensZ l := ⟨_, rfl⟩
    rw [← hls] at HW HN
    have hlw : l.length ≤ 9223372036854775807 := by omega
    clear hC hlo hl ht hl2 hlb hls
    go_enter Try.func12, Try.ntmps12
    go_wp2_with fail
    refine HLO.out.mono ?_
    rintro e W1 ⟨rfl, hb1⟩
    have HB1 := Aside0.mk hb1
    have HC1 := Aside0.mk (Kd.C_below HC.out hb1)
    clear hb1
    go_wp2_with fail
    refine (HN.out W1 HC1.out).mono ?_
    rintro e W2 ⟨v2, rfl, ho2, hb2⟩
    obtain ⟨A2, c2, rfl⟩ := own_formD ho2
    obtain ⟨k1, k2, k3⟩ := Kd.R_reads' (Kd.R_of_own (enc := Value.int .i64) (h1 := fun _ => rfl) (ok := fun _ => True) ho2 (fun _ _ => trivial))
    have HB2 := Aside0.mk (below_then HB1.out HB1.out.size hb2)
    have HW2 := Aside0.mk (HW.out W2 A2 c2 k3 k2)
    clear ho2 hb2 k1 k2 k3 HC1 HN HW
    go_wp2_with fail
    refine HW2.out.mono ?_
    rintro e W3 ⟨v3, rfl, hR3, hb3⟩
    have HB3 := Aside0.mk (below_then HB2.out HB2.out.size hb3)
    have HO3 := Aside0.mk (show W3.ownsRow w.heap.size 5 1 v3 lb.length (nums .u8 lb) from Kd.own_of_R (enc := Value.int .u8) (h1 := fun _ => rfl) (Kd.R_lower hR3 HB2.out.size))
    clear hR3 hb3 HW2
    go_wp2
    go_loopw [4, 18] (fun v4 v18 wr => ∃ i : Nat, v18 = .int .i64 i ∧ i ≤ l.length ∧ Aside0 (wr.ownsRow w.heap.size 5 1 v4 (lb ++ flatZ (l.take i)).length (nums .u8 (lb ++ flatZ (l.take i)))) ∧ Aside0 (Below w.heap.size w wr)) (fun _ v18 _ => 100000 - (intOf v18).toNat)
    case atStart => exact ⟨0, rfl, by omega, ⟨by simpa [flatZ] using HO3.out⟩, HB3⟩
    case round =>
      clear HO3 HB3
      obtain ⟨i, rfl, hi, HO, HB⟩ := hrel
      obtain ⟨Ao, co, rfl⟩ := own_formD HO.out
      by_cases c1 : i < l.length
      · have q1 : decide ((i : Int) < (l.length : Int)) = true := decide_eq_true (by omega)
        have q2 : decide (i < l.length) = true := decide_eq_true c1
        obtain ⟨s, hs⟩ : ∃ s, l[i]? = some s := ⟨_, List.getElem?_eq_getElem c1⟩
        obtain ⟨ad, rfl, hcell⟩ := str_at (Kd.C_below HC.out HB.out) hs
        have p1 : (0 : Int) ≤ (i : Int) := by omega
        have p2 : (i : Int) < (l.length : Int) := by omega
        have p3 : ((i : Int)).toNat = i := rfl
        have hw1 : IntKind.i64.wrap ((i : Int) + 1) = (i : Int) + 1 := IntWalk.i64_in _ (by have := HL2.out; omega)
        have HF := Aside0.mk (show lb ++ flatZ (l.take (i + 1)) = (lb ++ flatZ (l.take i)) ++ bytesOf s from by rw [flatZ_take l i s hs, List.append_assoc])
        have HXL := Aside0.mk (show (lb ++ flatZ (l.take i)).length + s.size ≤ 200000000 from by
          have := totZ_at hs
          have := HT.out
          have := HLB.out
          rw [List.length_append, flatZ_length]; omega)
        have HS := Aside0.mk HB.out.size
        have Hi := Aside0.mk c1
        obtain ⟨xs, hxs⟩ : ∃ xs, xs = lb ++ flatZ (l.take i) := ⟨_, rfl⟩
        rw [← hxs] at HO HF HXL ⊢
        clear hs hxs hi c1
        go_wp2_with (first
          | ((with_reducible refine gate_builtin (b := .append) (xs := #[.tmp 22, .tmp 23]) rfl ?_); at_builtin; refine print_append_str (w0 := w) w.heap.size rfl (.tmp 22) (.tmp 23) 25 9 5 rfl Try.underlying25 Try.underlying9 dg_info _ xs s rfl rfl HO.out HB.out HS.out (by have := HXL.out; omega) ?_; intro v2 w2 ho2 hb2 hg2; have HO5 := Aside0.mk ho2; have HB5 := Aside0.mk hb2; clear ho2 hb2 hg2))
        go_roundw
        case rel => exact ⟨i + 1, by go_num, Hi.out, ⟨by rw [HF.out]; exact HO5.out⟩, HB5⟩
        case measure => have := Hi.out; have := HL2.out; simp [intOf]; omega
      · have q1 : decide ((i : Int) < (l.length : Int)) = false := decide_eq_false (by omega)
        have q2 : decide (i < l.length) = false := decide_eq_false c1
        rw [show l.take i = l from List.take_of_length_le (by omega)] at HO ⊢
        clear hi c1
        go_wp2
        go_ret2
        exact ⟨_, rfl, HO.out, HB.out⟩
end Go.Proofs.Ytcdephhplmcmjaa.X
end

section
namespace Go.Proofs.Ytcdephhplmcmjaa.X
open Go.RowKit Go.Proofs.YtcdephhplmcmjaaW.PrintWords Go.Proofs.YtcdephhplmcmjaaW.PrintLast Go.Proofs.YtcdephhplmcmjaaW.PrintMore
attribute [local go_sem] max2_int min2_int max_two min_two max_three min_three max_four min_four
set_option linter.unusedVariables false
set_option linter.unusedSimpArgs false
def strings_Lengths.f (l0 : List ByteArray) : Option (List Int × Int) := if l0.length ≤ 100000 then some (lengthsZ l0) else none
theorem strings_Lengths.calls (A0 : Option Addr) (c0 : Nat) (l0 : List ByteArray) (r1 : List Int) (r2 : Int) (w : World) (hr0 : Kd.C Kd.string w A0 l0.length l0) (hc0 : l0.length ≤ c0) (h : strings_Lengths.f l0 = some (r1, r2)) :
    Calls Try.prog 12 #[.slice A0 l0.length c0] w fun e w' => ∃ v0_ : Value, e = .returned (.tuple #[v0_, .int .i64 r2]) ∧ Kd.R (Kd.int .u8) 5 w' w.heap.size (fun _ => True) v0_ r1 ∧ Below w.heap.size w w' := by
  unfold strings_Lengths.f at h
  by_cases hu : l0.length ≤ 100000
  · rw [if_pos hu] at h
    have h := Option.some.inj h
    refine (lengths_all A0 c0 l0 w hr0 hc0 hu).mono ?_
    rintro e w' ⟨v, rfl, ho, hb⟩
    rw [h] at ho ⊢
    exact ⟨v, rfl, Kd.R_of_own (enc := Value.int .u8) (h1 := fun _ => rfl) ho (fun _ _ => trivial), hb⟩
  · rw [if_neg hu] at h; cases h
end Go.Proofs.Ytcdephhplmcmjaa.X
end

section
namespace Go.Proofs.Ytcdephhplmcmjaa.X
open Go.RowKit Go.Proofs.YtcdephhplmcmjaaW.PrintWords Go.Proofs.YtcdephhplmcmjaaW.PrintLast Go.Proofs.YtcdephhplmcmjaaW.PrintMore
set_option linter.unusedVariables false
set_option linter.unusedSimpArgs false
def comL : List UInt8 → List UInt8 → Nat
  | a :: as_, b :: bs => if a = b then comL as_ bs + 1 else 0
  | _, _ => 0
def comZ (a b : ByteArray) : Nat := comL a.data.toList b.data.toList
theorem comL_le : ∀ a b, comL a b ≤ a.length ∧ comL a b ≤ b.length
  | [], b => by simp [comL]
  | a :: as_, [] => by simp [comL]
  | a :: as_, b :: bs => by
    have := comL_le as_ bs
    rw [comL]
    split <;> simp <;> omega
theorem comZ_le (a b : ByteArray) : comZ a b ≤ a.size ∧ comZ a b ≤ b.size := by
  have := comL_le a.data.toList b.data.toList
  rwa [data_length, data_length] at this
theorem comL_step (a b : List UInt8) (n : Nat) (h1 : n < a.length) (h2 : n < b.length) : comL (a.drop n) (b.drop n) = if a[n] = b[n] then comL (a.drop (n + 1)) (b.drop (n + 1)) + 1 else 0 := by
  rw [List.drop_eq_getElem_cons h1, List.drop_eq_getElem_cons h2, comL]
theorem comL_end (a b : List UInt8) (n : Nat) (h : a.length ≤ n ∨ b.length ≤ n) : comL (a.drop n) (b.drop n) = 0 := by
  rcases h with h | h
  · rw [List.drop_of_length_le h, comL.eq_def]
  · rw [List.drop_of_length_le h, comL.eq_def]
    cases a.drop n <;> rfl
theorem bt_get (s : ByteArray) (n : Nat) (h : n < s.data.toList.length) : bt s (n : Int) = (s.data.toList[n].toNat : Int) := by
  have h' : n < s.size := by rw [← data_length]; exact h
  unfold bt
  rw [dif_pos (show ((n : Int)).toNat < s.size from h')]
  rfl
theorem bt_eq (a b : ByteArray) (n : Nat) (h1 : n < a.data.toList.length) (h2 : n < b.data.toList.length) : bt a (n : Int) = bt b (n : Int) ↔ a.data.toList[n] = b.data.toList[n] := by
  rw [bt_get a n h1, bt_get b n h2]
  constructor
  · intro h
    exact UInt8.toNat_inj.1 (by omega)
  · intro h; rw [h]
set_option maxHeartbeats 1000000 in
theorem common_all (a b : ByteArray) (w : World) (ha : a.size ≤ 4000000000) (hb : b.size ≤ 4000000000) :
    Calls Try.prog 24 #[.string a, .string b] w fun e w' => e = .returned (.int .i64 (comZ a b)) ∧ Below w.heap.size w w' := by
  go_enter Try.func24, Try.ntmps24
  go_wp2
  go_loopw [5] (fun v5 wr => ∃ n : Nat, v5 = .int .i64 n ∧ n ≤ a.size ∧ n ≤ b.size ∧ Aside0 (comZ a b = n + comL (a.data.toList.drop n) (b.data.toList.drop n)) ∧ Aside0 (Below w.heap.size w wr)) (fun v5 _ => 4000000000 - (intOf v5).toNat)
  case atStart => exact ⟨0, rfl, by omega, by omega, ⟨by simp [comZ]⟩, ⟨Below.refl _ _⟩⟩
  case round =>
    obtain ⟨n, rfl, h1, h2, HE, HB⟩ := hrel
    obtain ⟨m, hm⟩ : ∃ m : Int, m = (if b.size < a.size then (b.size : Int) else (a.size : Int)) := ⟨_, rfl⟩
    have hm2 : (if b.size < a.size then (b.size : Int) else (a.size : Int)) = m := hm.symm
    have hm4 : min (a.size : Int) (b.size : Int) = m := by rw [hm, Int.min_def]; split <;> split <;> omega
    have hw1 : IntKind.i64.wrap ((n : Int) + 1) = (n : Int) + 1 := IntWalk.i64_in _ (by omega)
    by_cases c1 : n < a.size ∧ n < b.size
    · have q1 : decide ((n : Int) < m) = true := decide_eq_true (by rw [hm]; split <;> omega)
      have p1 : (0 : Int) ≤ (n : Int) := by omega
      have p2 : (n : Int) < (a.size : Int) := by omega
      have p3 : (n : Int) < (b.size : Int) := by omega
      have k1 : ∀ h : n < a.size, ((a[n]'h).toNat : Int) = bt a (n : Int) := fun h => bt_at a (n : Int) h
      have k2 : ∀ h : n < b.size, ((b[n]'h).toNat : Int) = bt b (n : Int) := fun h => bt_at b (n : Int) h
      have l1 : n < a.data.toList.length := by rw [data_length]; exact c1.1
      have l2 : n < b.data.toList.length := by rw [data_length]; exact c1.2
      have Hc := Aside0.mk c1
      by_cases c2 : bt a (n : Int) = bt b (n : Int)
      · have q2 : (bt a (n : Int) == bt b (n : Int)) = true := beq_iff_eq.2 c2
        have HE2 := Aside0.mk (show comZ a b = (n + 1 : Nat) + comL (a.data.toList.drop (n + 1)) (b.data.toList.drop (n + 1)) from by
          have h := HE.out
          rw [comL_step _ _ n l1 l2, if_pos ((bt_eq a b n l1 l2).1 c2)] at h
          omega)
        clear c1 c2 h1 h2 hm l1 l2 HE
        go_wp2
        go_quiet (fail)
        go_wp2
        go_roundw
        case rel => exact ⟨n + 1, by go_num, Hc.out.1, Hc.out.2, HE2, ⟨pw_below_drewN HB.out _⟩⟩
        case measure => have := Hc.out; simp [intOf]; omega
      · have q2 : (bt a (n : Int) == bt b (n : Int)) = false := beq_eq_false_iff_ne.2 c2
        have HE2 := Aside0.mk (show comZ a b = n from by
          have h := HE.out
          rw [comL_step _ _ n l1 l2, if_neg (fun h => c2 ((bt_eq a b n l1 l2).2 h))] at h
          omega)
        clear c1 c2 h1 h2 hm l1 l2 HE
        go_wp2
        go_quiet (fail)
        go_wp2
        go_ret
        exact ⟨by rw [HE2.out]; rfl, pw_below_drewN HB.out _⟩
    · have q1 : decide ((n : Int) < m) = false := decide_eq_false (by rw [hm]; split <;> omega)
      have HE2 := Aside0.mk (show comZ a b = n from by
        have h := HE.out
        rw [comL_end _ _ n (by rw [data_length, data_length]; omega)] at h
        omega)
      clear c1 h1 h2 hm HE
      go_wp2
      go_quiet (fail)
      go_wp2
      go_ret
      exact ⟨by rw [HE2.out]; rfl, pw_below_drewN HB.out _⟩
end Go.Proofs.Ytcdephhplmcmjaa.X
end

section
namespace Go.Proofs.Ytcdephhplmcmjaa.X
open Go.RowKit Go.Proofs.YtcdephhplmcmjaaW.PrintWords Go.Proofs.YtcdephhplmcmjaaW.PrintLast Go.Proofs.YtcdephhplmcmjaaW.PrintMore
set_option linter.unusedVariables false
set_option linter.unusedSimpArgs false
def PK : Kd (Int × ByteArray) := Kd.pair (Kd.int .i64) Kd.string
theorem PK_open {w : World} {x : Int × ByteArray} {cs : List Value} (h : PK.K w x cs) : cs = [.int .i64 x.1, .string x.2] := by
  obtain ⟨_, _, rfl, rfl, rfl⟩ := h
  exact rfl
theorem PK_mkM (w : World) (base : Nat) (ok : Nat → Prop) (x : Int × ByteArray) : PK.M w base ok x [.int .i64 x.1, .string x.2] := ⟨[.int .i64 x.1], [.string x.2], rfl, rfl, rfl⟩
theorem pk_at {w : World} {A : Option Addr} {n : Nat} {xs : List (Int × ByteArray)} (h : PK.C w A n xs) {i : Nat} {x : Int × ByteArray} (hx : xs[i]? = some x) :
    ∃ ad, A = some ad ∧ w.cell? (ad.add (i * 2)) = some (.int .i64 x.1) ∧ w.cell? ⟨(ad.add (i * 2)).block, (ad.add (i * 2)).off + 1, none⟩ = some (.string x.2) := by
  have hl := Kd.C_len h
  have hi := (List.getElem?_eq_some_iff.1 hx).1
  obtain ⟨ad, c, e, _, hK, hc0⟩ := Kd.C_get h (0, ByteArray.empty) (i : Int) (by omega) (by omega)
  have hc : ∀ j u, c[j]? = some u → w.cell? (ad.add (i * 2 + j)) = some u := hc0
  have hg : xs.getD ((i : Int)).toNat (0, ByteArray.empty) = x := by
    rw [show ((i : Int)).toNat = i from rfl, List.getD_eq_getElem?_getD, hx]; rfl
  rw [hg] at hK
  obtain rfl := PK_open hK
  exact ⟨ad, e, hc 0 _ rfl, by rw [← add_field _ _ 1 (by omega)]; exact hc 1 _ rfl⟩
def firstsZ (all : List (Int × ByteArray)) : List Int := all.map (·.1)
theorem firstsZ_length (l : List (Int × ByteArray)) : (firstsZ l).length = l.length := by simp [firstsZ]
theorem firstsZ_take (l : List (Int × ByteArray)) (i : Nat) (x : Int × ByteArray) (h : l[i]? = some x) : firstsZ (l.take (i + 1)) = firstsZ (l.take i) ++ [x.1] := by
  rw [List.take_add_one, h]
  simp [firstsZ]
set_option maxHeartbeats 1000000 in
theorem pair_one (x : Int) (s : ByteArray) (w : World) : Calls Try.prog 32 #[.agg #[.int .i64 x, .string s]] w fun e w' => e = .returned (.int .i64 x) ∧ Below w.heap.size w w' := by
  have hu := Try.underlying52
  go_enter Try.func32, Try.ntmps32
  go_wp2
  go_ret
  exact ⟨rfl, below_alloc (Below.refl _ _) _⟩
set_option maxHeartbeats 2000000 in
theorem nums_pair (A : Option Addr) (c : Nat) (l : List (Int × ByteArray)) (w : World) (hC : PK.C w A l.length l) (hc : l.length ≤ c) (hl : l.length ≤ 100000) :
    Calls Try.prog 31 #[.slice A l.length c, .func (.func 32) #[] #[]] w fun e w' => ∃ v, e = .returned v ∧ w'.ownsRow w.heap.size 2 1 v (firstsZ l).length (nums .i64 (firstsZ l)) ∧ Below w.heap.size w w' := by
  have HC := Aside0.mk hC
  have HL1 := Aside0.mk pair_one
  have hlw : l.length ≤ 9223372036854775807 := by omega
  have hu := Try.underlying52
  clear hC
  go_enter Try.func31, Try.ntmps31
  go_wp2
  go_loopw [5, 10] (fun v5 v10 wr => ∃ i : Nat, v10 = .int .i64 i ∧ i ≤ l.length ∧ Aside0 (wr.ownsRow w.heap.size 2 1 v5 (firstsZ (l.take i)).length (nums .i64 (firstsZ (l.take i)))) ∧ Aside0 (Below w.heap.size w wr)) (fun _ v10 _ => 100000 - (intOf v10).toNat)
  case atStart => exact ⟨0, rfl, by omega, ⟨World.ownsRow_nil _ _ _ _⟩, ⟨Below.refl _ _⟩⟩
  case round =>
    obtain ⟨i, rfl, hi, HO, HB⟩ := hrel
    obtain ⟨Ao, co, rfl⟩ := own_formD HO.out
    by_cases c1 : i < l.length
    · have q1 : decide ((i : Int) < (l.length : Int)) = true := decide_eq_true (by omega)
      have q2 : decide (i < l.length) = true := decide_eq_true c1
      obtain ⟨⟨x, s⟩, hs⟩ : ∃ s, l[i]? = some s := ⟨_, List.getElem?_eq_getElem c1⟩
      obtain ⟨ad, rfl, hc0, hc1⟩ := pk_at (Kd.C_below HC.out HB.out) hs
      have p1 : (0 : Int) ≤ (i : Int) := by omega
      have p2 : (i : Int) < (l.length : Int) := by omega
      have p3 : ((i : Int)).toNat = i := rfl
      have hw1 : IntKind.i64.wrap ((i : Int) + 1) = (i : Int) + 1 := IntWalk.i64_in _ (by omega)
      have HT := Aside0.mk (show firstsZ (l.take (i + 1)) = firstsZ (l.take i) ++ [x] from firstsZ_take l i _ hs)
      have HTL := Aside0.mk (show (firstsZ (l.take i)).length ≤ 100000 from by rw [firstsZ_length, List.length_take]; omega)
      have Hi := Aside0.mk c1
      obtain ⟨xs, hxs⟩ : ∃ xs, xs = firstsZ (l.take i) := ⟨_, rfl⟩
      rw [← hxs] at HO HT HTL ⊢
      clear hs hxs hi c1
      go_wp2_with (first
        | (go_at_call 32; refine (HL1.out _ _ _).mono ?_; rintro e W1 ⟨rfl, hb1⟩; have HB1 := Aside0.mk (show Below w.heap.size w W1 from below_then (below_alloc HB.out _) (by have := HB.out.size; rw [World.size_alloc]; omega) hb1); have HO1 := Aside0.mk (own_belowW (own_belowW HO.out (below_alloc (Below.refl _ _) _)) hb1); have HS1 := Aside0.mk HB1.out.size; clear hb1)
        | ((with_reducible refine gate_builtin (b := .append) (xs := #[.tmp 14, .tmp 18]) rfl ?_); at_builtin; refine print_append_num (w0 := w) w.heap.size rfl (.tmp 14) (.tmp 18) 44 2 .i64 8 rfl Try.underlying44 dl_info (by decide) _ xs x rfl rfl HO1.out HB1.out HS1.out (by have := HTL.out; omega) ?_; intro v2 w2 ho2 hb2 hg2 hat2; have HO5 := Aside0.mk ho2; have HB5 := Aside0.mk hb2; clear ho2 hb2 hg2 hat2))
      go_roundw
      case rel => exact ⟨i + 1, by go_num, Hi.out, ⟨by rw [HT.out]; exact HO5.out⟩, HB5⟩
      case measure => have := Hi.out; simp [intOf]; omega
    · have q1 : decide ((i : Int) < (l.length : Int)) = false := decide_eq_false (by omega)
      have q2 : decide (i < l.length) = false := decide_eq_false c1
      rw [show l.take i = l from List.take_of_length_le (by omega)] at HO ⊢
      clear hi c1
      go_wp2
      go_ret
      exact ⟨_, rfl, HO.out, HB.out⟩
end Go.Proofs.Ytcdephhplmcmjaa.X
end

section
namespace Go.Proofs.Ytcdephhplmcmjaa.X
open Go.RowKit Go.Proofs.YtcdephhplmcmjaaW.PrintWords Go.Proofs.YtcdephhplmcmjaaW.PrintLast Go.Proofs.YtcdephhplmcmjaaW.PrintMore
set_option linter.unusedVariables false
set_option linter.unusedSimpArgs false
def pairsF (last : ByteArray) : List ByteArray → List (Int × ByteArray)
  | [] => []
  | s :: l => ((comZ last s : Nat), s) :: pairsF s l
def pairsZ (l : List ByteArray) : List (Int × ByteArray) := pairsF ⟨#[]⟩ l
theorem pairsF_length : ∀ (l : List ByteArray) (last : ByteArray), (pairsF last l).length = l.length
  | [], _ => rfl
  | s :: l, last => by rw [pairsF, List.length_cons, List.length_cons, pairsF_length l s]
set_option maxHeartbeats 1000000 in
theorem pairs_in (A : Option Addr) (c : Nat) (l : List ByteArray) (w : World) :
    Calls Try.prog 30 #[.slice A l.length c] w fun e w' => e = .returned (.func (.func 44) #[] #[.pointer (some ⟨w.heap.size, 0, none⟩)]) ∧ w' = w.alloc (.cells #[.slice A l.length c] 22) := by
  go_enter Try.func30, Try.ntmps30
  go_wp2
  go_ret
  exact ⟨rfl, rfl⟩
structure PrH (w0 W : World) (A : Option Addr) (c : Nat) (l : List ByteArray) (gb : Nat) (X : Nat → Prop) : Prop where
  hC : Kd.C Kd.string w0 A l.length l
  hc : l.length ≤ c
  hl : l.length ≤ 65536
  hs : ∀ s ∈ l, s.size ≤ 4000000000
  hb : Below w0.heap.size w0 W
  hgb : W.heap[gb]? = some (.cells #[.slice A l.length c] 22 (0, 0))
  hXn : ∀ k, X k → w0.heap.size ≤ k
  hXb : ¬ X gb
theorem PrH.step {w0 W W' : World} {A : Option Addr} {c : Nat} {l : List ByteArray} {gb : Nat} {X : Nat → Prop} (h : PrH w0 W A c l gb X) (hb : Below W.heap.size W W') : PrH w0 W' A c l gb X :=
  ⟨h.hC, h.hc, h.hl, h.hs, h.hb.trans (hb.mono h.hb.size), blk_below h.hgb hb, h.hXn, h.hXb⟩
theorem PrH.but {w0 W W' : World} {A : Option Addr} {c : Nat} {l : List ByteArray} {gb : Nat} {X : Nat → Prop} (h : PrH w0 W A c l gb X) (hb : KeepsBut X W W') : PrH w0 W' A c l gb X :=
  ⟨h.hC, h.hc, h.hl, h.hs, h.hb.trans (hb.below h.hb.size h.hXn), hb.at h.hgb h.hXb, h.hXn, h.hXb⟩
def PrG (l : List ByteArray) (pre : List (Int × ByteArray)) (x : Int × ByteArray) (_ : World) : Prop := ∃ r, pre ++ x :: r = pairsZ l
def encP (x : Int × ByteArray) : Array Value := #[.agg #[.int .i64 x.1, .string x.2]]
def PrLays (n : Nat) (W : World) (l : List ByteArray) (gb : Nat) (X : Nat → Prop) : Prop :=
  SeqLays Fence.wide n Try.prog 44 #[.pointer (some ⟨gb, 0, none⟩)] encP (fun P Q => Below P.heap.size P Q) (KeepsBut X) (PrG l) (fun xs => xs = pairsZ l) (fun _ => True) (pairsZ l).length W
attribute [local go_sem] Oper.semAt_some
set_option maxRecDepth 100000 in
set_option maxHeartbeats 4000000 in
theorem pairs1_lays (n : Nat) (hn : 1 ≤ n) {w0 W : World} {A : Option Addr} {c : Nat} {l : List ByteArray} {gb : Nat} {X : Nat → Prop} (h : PrH w0 W A c l gb X) : PrLays n W l gb X := by
  intro yl J Jx hJ hJx hY h0
  have HJ := Aside0.mk (show ∀ pre P Q, J pre P → Below P.heap.size P Q → J pre Q from hJ)
  have HY := Aside0.mk hY
  have H0 := Aside0.mk h0
  have HH := Aside0.mk h
  have hlen := h.hl
  have hcc := h.hc
  have qb : W.cell? ⟨gb, 0, none⟩ = some (.slice A l.length c) := blk_cell h.hgb 0
  have HCM := Aside0.mk (fun (a b : ByteArray) (Wz : World) (ha : a.size ≤ 4000000000) (hb : b.size ≤ 4000000000) => common_all a b Wz ha hb)
  clear hJ hJx hY h0 h
  refine callsIn_of_wp Try.func44 rfl trivial ?_ rfl
  simp only [Try.ntmps44, List.size_toArray, List.length_cons, List.length_nil, Nat.reduceAdd, Nat.reduceSub, Array.replicate_succ, Array.replicate_zero, List.push_toArray, List.append_toArray, List.nil_append, List.cons_append]
  gi_wp2
  gi_loopw [3, 8] (fun v3 v8 wr => ∃ (i : Nat) (last : ByteArray) (pre : List (Int × ByteArray)), v8 = .int .i64 i ∧ v3 = .string last ∧ i ≤ l.length ∧ Aside0 (last.size ≤ 4000000000) ∧ Aside0 (pre ++ pairsF last (l.drop i) = pairsZ l) ∧ Aside0 (J pre wr) ∧ Aside0 (PrH w0 wr A c l gb X)) (fun _ v8 _ => 70000 - (intOf v8).toNat)
  case atStart => exact ⟨0, ⟨#[]⟩, [], rfl, rfl, by omega, ⟨by decide⟩, ⟨rfl⟩, H0, HH⟩
  case round =>
    clear H0 HH qb
    obtain ⟨i, last, pre, rfl, rfl, hi, HLS, HP, HJp, HH⟩ := hrel
    have hw1 : IntKind.i64.wrap ((i : Int) + 1) = (i : Int) + 1 := IntWalk.i64_in _ (by omega)
    by_cases ci : i < l.length
    · have q1 : decide ((i : Int) < (l.length : Int)) = true := decide_eq_true (by omega)
      have q2 : decide (i < l.length) = true := decide_eq_true ci
      obtain ⟨s, hs⟩ : ∃ s, l[i]? = some s := ⟨_, List.getElem?_eq_getElem ci⟩
      obtain ⟨ad, rfl, hcell⟩ := str_at (Kd.C_below HH.out.hC HH.out.hb) hs
      obtain ⟨hlt, hge⟩ := List.getElem?_eq_some_iff.1 hs
      have p1 : (0 : Int) ≤ (i : Int) := by omega
      have p2 : (i : Int) < (l.length : Int) := by omega
      have p3 : ((i : Int)).toNat = i := rfl
      have HSS := Aside0.mk (show s.size ≤ 4000000000 from HH.out.hs s (List.mem_of_getElem? hs))
      have HP2 := Aside0.mk (show pre ++ (((comZ last s : Nat) : Int), s) :: pairsF s (l.drop (i + 1)) = pairsZ l from by
        have h := HP.out
        rwa [List.drop_eq_getElem_cons hlt, hge, pairsF] at h)
      have Hi := Aside0.mk ci
      clear hs hlt hge ci hi HP
      gi_wp2_with (refine ⟨trivial, ?_⟩; gi_at_call 24; refine (callsIn_wide.2 (HCM.out last s _ HLS.out HSS.out)).mono ?_; rintro e1 W1 ⟨rfl, hb1⟩; have HH1 := Aside0.mk (HH.out.step hb1); obtain ⟨fn, tmps, assign, body, hy, hR2⟩ := HY.out pre (((comZ last s : Nat) : Int), s) W1 (HJ.out _ _ _ HJp.out hb1) ⟨_, HP2.out⟩ (by rw [← HP2.out]; simp); unfold encP at hy; dsimp only at hy; have HR2 := Aside0.mk hR2; clear hb1 hR2)
      refine HR2.out.mono ?_
      rintro e3 W3 (⟨rfl, hJ3, hk3⟩ | ⟨rfl, hJx3, _⟩)
      · have HH3 := Aside0.mk (HH1.out.but hk3)
        have HJ3 := Aside0.mk hJ3
        clear hJ3 hk3 hy HR2 HH1 HH HJp
        gi_wp2
        go_roundw
        case rel => exact ⟨i + 1, s, pre ++ [(((comZ last s : Nat) : Int), s)], by go_num, rfl, Hi.out, HSS, ⟨by rw [← HP2.out, List.append_assoc]; rfl⟩, HJ3, HH3⟩
        case measure => have := Hi.out; simp [intOf]; omega
      · have HJ3 := Aside0.mk hJx3
        clear hJx3 hy HR2 HH1 HH HJp
        gi_wp2
        refine bodyPost_ret (results_none rfl _ _ _) rfl ?_
        exact ⟨⟨_, rfl⟩, .inr ⟨_, trivial, HJ3.out⟩⟩
    · have q1 : decide ((i : Int) < (l.length : Int)) = false := decide_eq_false (by omega)
      have q2 : decide (i < l.length) = false := decide_eq_false ci
      have HP2 := Aside0.mk (show pre = pairsZ l from by
        have h := HP.out
        rwa [List.drop_of_length_le (by omega), pairsF, List.append_nil] at h)
      clear HP hi ci
      gi_wp2
      go_end0
      exact ⟨⟨_, rfl⟩, .inl ⟨_, HP2.out, HJp.out⟩⟩
end Go.Proofs.Ytcdephhplmcmjaa.X
end

section
namespace Go.Proofs.Ytcdephhplmcmjaa.X
open Go.RowKit Go.Proofs.YtcdephhplmcmjaaW.PrintWords Go.Proofs.YtcdephhplmcmjaaW.PrintLast Go.Proofs.YtcdephhplmcmjaaW.PrintMore
attribute [local go_sem] Oper.semAt_some
set_option linter.unusedVariables false
set_option linter.unusedSimpArgs false
section
variable {P : Program}
theorem region_round {id lr n : Nat} {Q : Exit → Act → World → Prop} {a : Act} {w : World} {l : List Oper} (hp : l.all (fun o => noDefer o.op) = true) (hq : ¬ LetsOut Q) (h : wpList P l.toArray Q l a w) : (Code.region id l.toArray false).wpIn (Fence.wide.inRound lr) n P Q a w := by
  refine wpIn_region (ops_in lr n hq (fun i o ho => ?_) _ _ _ ?_)
  · have : o ∈ l := by simpa using Array.mem_of_getElem? ho
    exact List.all_eq_true.1 hp o this
  · rw [List.range_eq_range', show l.toArray.size = l.length by simp, wpOps_eq_wpList l 0 (by simp)]
    exact h
end
section
variable {α : Type} {d : Kd α} {e base : Nat} {W W' : World} {ok : Nat → Prop} {v : Value} {xs : List α}
theorem R_still (h : d.R e W base ok v xs) (hm : ∀ k q cells, q ∈ e :: d.E → base ≤ k → W.heap[k]? = some (.cells cells q (0, 0)) → W'.heap[k]? = W.heap[k]?) : d.R e W' base ok v xs :=
  Kd.R_mono (Kd.R_move (Kd.R_bound h) (fun k hk => by obtain ⟨_, hb, _, q, hq, cells, hc⟩ := hk; exact hm k q cells hq hb hc)) (fun _ hk => hk.1)
theorem R_set {g : Nat} {t : TypeId} {cs : Array Value} (h : d.R e W base ok v xs) (hg : W.heap[g]? = some (.cells cs t (0, 0))) (ht : ∀ q, q ∈ e :: d.E → q ≠ t) (o : Nat) (u : Value) : d.R e (W.setCell ⟨g, o, none⟩ u) base ok v xs :=
  R_still h fun k q cells hq _ hk => Below.heap_setCell W ⟨g, o, none⟩ u k (fun he => by
    have he : k = g := he
    subst he
    rw [hg] at hk
    cases hk
    exact ht _ hq rfl)
theorem R_turns {B : Nat} (h : d.R e W base ok v xs) (ht : Turns B W W') : d.R e W' base ok v xs := by
  obtain ⟨k, o, o', _, _, hk, hc, _, rfl⟩ := ht
  refine R_still h fun j q cells _ _ hj => World.putObj_heap_other (fun he => ?_)
  subst he
  rw [hk] at hj
  cases hj
  cases hc
theorem R_ne {g : Nat} {t : TypeId} {cs : Array Value} (h : d.R e W base ok v xs) (hg : W.heap[g]? = some (.cells cs t (0, 0))) (ht : e ≠ t) : some g ≠ v.ownBlock := fun he => by
  obtain ⟨cells, hc⟩ := Kd.R_typed h g he.symm
  rw [hg] at hc
  cases hc
  exact ht rfl
end
theorem two_grown {B : Nat} {W w1 : World} {v : Value} {e : TypeId} (hg : W.grownBy w1 v.ownBlock) (ht : ∀ k, v.ownBlock = some k → ∃ cells, W.heap[k]? = some (.cells cells e (0, 0))) : KeepsTwo B W w1 := fun k o _ _ hk hc =>
  (hg.block k (blk_lt hk) (fun he => by
    obtain ⟨cells, hcl⟩ := ht k he.symm
    rw [hk] at hcl
    cases hcl
    cases hc)).trans hk
theorem two_set {B : Nat} {W : World} {g o : Nat} {t : TypeId} {cs : Array Value} (hg : W.heap[g]? = some (.cells cs t (0, 0))) (u : Value) : KeepsTwo B W (W.setCell ⟨g, o, none⟩ u) := fun k ob _ _ hk hc =>
  (Below.heap_setCell W ⟨g, o, none⟩ u k (fun he => by
    have he : k = g := he
    subst he
    rw [hk] at hg
    cases hg
    cases hc)).trans hk
theorem two_below {B : Nat} {W W' : World} (h : Below W.heap.size W W') : KeepsTwo B W W' := fun k o _ _ hk _ => (h.block k (blk_lt hk)).trans hk
def restOf (x : Int × ByteArray) : ByteArray := x.2.extract x.1.toNat x.2.size
def restsZ (l : List (Int × ByteArray)) : List ByteArray := l.map restOf
theorem restsZ_append (l : List (Int × ByteArray)) (x : Int × ByteArray) : restsZ (l ++ [x]) = restsZ l ++ [restOf x] := by simp [restsZ]
structure PfS (w : World) (ga gr gb B : Nat) (A : Option Addr) (c n : Nat) (all : List (Int × ByteArray)) (rest : List ByteArray) (va vr : Value) (W : World) : Prop where
  hga : W.heap[ga]? = some (.cells #[va] 47 (0, 0))
  hgr : W.heap[gr]? = some (.cells #[vr] 22 (0, 0))
  hoa : PK.R 52 W w.heap.size (fun _ => True) va all
  hor : Kd.string.R 9 W w.heap.size (fun _ => True) vr rest
  hb : Below w.heap.size w W
  hgb : W.heap[gb]? = some (.cells #[.slice A n c] 22 (0, 0))
  hB : B + 2 ≤ W.heap.size
section
variable {w W W' : World} {ga gr gb B c n : Nat} {A : Option Addr} {all : List (Int × ByteArray)} {rest : List ByteArray} {va vr : Value}
theorem PfS.grow (h : PfS w ga gr gb B A c n all rest va vr W) (hb : Below W.heap.size W W') : PfS w ga gr gb B A c n all rest va vr W' :=
  ⟨blk_below h.hga hb, blk_below h.hgr hb, Kd.R_below h.hoa hb, Kd.R_below h.hor hb, h.hb.trans (hb.mono h.hb.size), blk_below h.hgb hb, Nat.le_trans h.hB hb.size⟩
theorem PfS.turns (h : PfS w ga gr gb B A c n all rest va vr W) (ht : Turns B W W') (h1 : ga < B) (h2 : gr < B) (h3 : gb < B) (h4 : w.heap.size ≤ B) : PfS w ga gr gb B A c n all rest va vr W' :=
  ⟨ht.at h.hga (.inl h1), ht.at h.hgr (.inl h2), R_turns h.hoa ht, R_turns h.hor ht, h.hb.trans (ht.below h4 h.hb.size), ht.at h.hgb (.inl h3), Nat.le_trans h.hB (ht.below (n := 0) (Nat.zero_le _) (Nat.zero_le _)).size⟩
theorem PfS.putA {w1 : World} {v1 : Value} {x : Int × ByteArray} (h : PfS w ga gr gb B A c n all rest va vr W) (ho : PK.R 52 w1 w.heap.size (fun _ => True) v1 (all ++ [x])) (hb : Below w.heap.size w w1) (hg : W.grownBy w1 va.ownBlock) (hw : w.heap.size ≤ ga) (h1 : ga ≠ gr) (h2 : ga ≠ gb) :
    PfS w ga gr gb B A c n (all ++ [x]) rest v1 vr (w1.setCell ⟨ga, 0, none⟩ v1) ∧ KeepsBut (fun j => w.heap.size ≤ j ∧ j ≠ gb) W (w1.setCell ⟨ga, 0, none⟩ v1) ∧ KeepsTwo B W (w1.setCell ⟨ga, 0, none⟩ v1) ∧ w1.heap[ga]? = some (.cells #[va] 47 (0, 0)) := by
  have ea : w1.heap[ga]? = some (.cells #[va] 47 (0, 0)) := (hg.block ga (blk_lt h.hga) (R_ne h.hoa h.hga (by decide))).trans h.hga
  have er : w1.heap[gr]? = some (.cells #[vr] 22 (0, 0)) := (hg.block gr (blk_lt h.hgr) (R_ne h.hoa h.hgr (by decide))).trans h.hgr
  have eb : w1.heap[gb]? = some (.cells #[.slice A n c] 22 (0, 0)) := (hg.block gb (blk_lt h.hgb) (R_ne h.hoa h.hgb (by decide))).trans h.hgb
  refine ⟨⟨blk_set ea 0 _, blk_far er (p := ⟨ga, 0, none⟩) (by simpa using Ne.symm h1) _, R_set ho ea (by decide) 0 _, R_set (Kd.R_over' h.hor (Kd.R_typed h.hoa) (by decide) hg) ea (by decide) 0 _, hb.setCell hw _, blk_far eb (p := ⟨ga, 0, none⟩) (by simpa using Ne.symm h2) _, ?_⟩, ?_, (two_grown hg (Kd.R_typed h.hoa)).trans (two_set ea _), ea⟩
  · rw [wr_setsize]; exact Nat.le_trans h.hB hg.size
  · refine (KeepsBut.of_grown hg (fun r hr => ⟨Kd.R_base h.hoa r hr, fun e => ?_⟩)).trans (KeepsBut.setCell _ 0 _ ⟨hw, h2⟩)
    subst e
    exact R_ne h.hoa h.hgb (by decide) hr.symm
theorem PfS.putR {w1 : World} {v1 : Value} {y : ByteArray} (h : PfS w ga gr gb B A c n all rest va vr W) (ho : Kd.string.R 9 w1 w.heap.size (fun _ => True) v1 (rest ++ [y])) (hb : Below w.heap.size w w1) (hg : W.grownBy w1 vr.ownBlock) (hw : w.heap.size ≤ gr) (h1 : ga ≠ gr) (h2 : gr ≠ gb) :
    PfS w ga gr gb B A c n all (rest ++ [y]) va v1 (w1.setCell ⟨gr, 0, none⟩ v1) ∧ KeepsBut (fun j => w.heap.size ≤ j ∧ j ≠ gb) W (w1.setCell ⟨gr, 0, none⟩ v1) ∧ KeepsTwo B W (w1.setCell ⟨gr, 0, none⟩ v1) ∧ w1.heap[gr]? = some (.cells #[vr] 22 (0, 0)) := by
  have ea : w1.heap[ga]? = some (.cells #[va] 47 (0, 0)) := (hg.block ga (blk_lt h.hga) (R_ne h.hor h.hga (by decide))).trans h.hga
  have er : w1.heap[gr]? = some (.cells #[vr] 22 (0, 0)) := (hg.block gr (blk_lt h.hgr) (R_ne h.hor h.hgr (by decide))).trans h.hgr
  have eb : w1.heap[gb]? = some (.cells #[.slice A n c] 22 (0, 0)) := (hg.block gb (blk_lt h.hgb) (R_ne h.hor h.hgb (by decide))).trans h.hgb
  refine ⟨⟨blk_far ea (p := ⟨gr, 0, none⟩) (by simpa using h1) _, blk_set er 0 _, R_set (Kd.R_over' h.hoa (Kd.R_typed h.hor) (by decide) hg) er (by decide) 0 _, R_set ho er (by decide) 0 _, hb.setCell hw _, blk_far eb (p := ⟨gr, 0, none⟩) (by simpa using Ne.symm h2) _, ?_⟩, ?_, (two_grown hg (Kd.R_typed h.hor)).trans (two_set er _), er⟩
  · rw [wr_setsize]; exact Nat.le_trans h.hB hg.size
  · refine (KeepsBut.of_grown hg (fun r hr => ⟨Kd.R_base h.hor r hr, fun e => ?_⟩)).trans (KeepsBut.setCell _ 0 _ ⟨hw, h2⟩)
    subst e
    exact R_ne h.hor h.hgb (by decide) hr.symm
end
theorem sp_info : (Try.prog.info? 52).map (fun i => (i.zero, i.size, i.bytes)) = some (some (.agg #[(.int .i64 0), (.string ⟨#[]⟩)]), 2, 24) := by kernel_rfl
theorem ss_info : (Try.prog.info? 9).map (fun i => (i.zero, i.size, i.bytes)) = some (some (.string ⟨#[]⟩), 1, 16) := by kernel_rfl
def PfI (w : World) (ga gr gb B : Nat) (A : Option Addr) (c n : Nat) (pre : List (Int × ByteArray)) (W : World) : Prop := ∃ va vr, PfS w ga gr gb B A c n pre (restsZ pre) va vr W
theorem pairsF_rests : ∀ (l : List ByteArray) (last : ByteArray), ∀ x ∈ pairsF last l, 0 ≤ x.1 ∧ x.1 ≤ (x.2.size : Int) ∧ x.2 ∈ l
  | [], _, x, h => by cases h
  | s :: l, last, x, h => by
    rw [pairsF] at h
    rcases List.mem_cons.1 h with rfl | h
    · have := (comZ_le last s).2
      exact ⟨by show (0 : Int) ≤ (comZ last s : Nat); omega, by show ((comZ last s : Nat) : Int) ≤ (s.size : Int); omega, List.mem_cons_self⟩
    · obtain ⟨h1, h2, h3⟩ := pairsF_rests l s x h
      exact ⟨h1, h2, List.mem_cons_of_mem _ h3⟩
theorem rests_tot : ∀ (l : List ByteArray) (last : ByteArray), totZ (restsZ (pairsF last l)) ≤ totZ l
  | [], _ => Nat.le_refl _
  | s :: l, last => by
    have := rests_tot l s
    show totZ (restOf _ :: restsZ (pairsF s l)) ≤ _
    rw [totZ, totZ]
    have h2 : (restOf (((comZ last s : Nat) : Int), s)).size ≤ s.size := by
      show (s.extract (comZ last s) s.size).size ≤ s.size
      rw [ByteArray.size_extract]
      omega
    omega
theorem rests_short {l : List ByteArray} (h : longZ l = false) : longZ (restsZ (pairsZ l)) = false := by
  obtain ⟨h1, h2⟩ := longZ_no h
  have := rests_tot l ⟨#[]⟩
  exact decide_eq_false (by
    rw [show (restsZ (pairsZ l)).length = l.length by rw [restsZ, List.length_map, pairsZ, pairsF_length]]
    unfold pairsZ
    omega)
def prefixesZ (l : List ByteArray) : List Int × Int := if longZ l then ([], 3) else (D13.listB (firstsZ (pairsZ l)) ++ (lengthsZ (restsZ (pairsZ l))).1, 0)
theorem size_le_tot : ∀ (l : List ByteArray), ∀ s ∈ l, s.size ≤ totZ l
  | [], s, h => by cases h
  | t :: l, s, h => by
    rw [totZ]
    rcases List.mem_cons.1 h with rfl | h
    · omega
    · have := size_le_tot l s h
      omega
def prAct (A : Option Addr) (c n ga gr gb g6 : Nat) (x : Int × ByteArray) : Act :=
  { tmps := #[.slice A n c, undef, .slice none 0 0, .int .i64 0, .pointer (some ⟨ga, 0, none⟩), .pointer (some ⟨gr, 0, none⟩), .pointer (some ⟨g6, 0, none⟩), undef, undef, undef, .slice A n c, .bool false, .slice A n c, .func (.func 44) #[] #[.pointer (some ⟨gb, 0, none⟩)], .agg #[.int .i64 x.1, .string x.2], undef, undef, undef, undef, undef, undef, undef, undef, undef, undef, undef, undef, undef, undef, undef, undef, undef, undef, undef, undef, undef, undef, undef, undef, undef, undef, undef, undef, undef, undef], defers := [] }
set_option maxRecDepth 100000 in
set_option maxHeartbeats 4000000 in
theorem prefixes_main (A : Option Addr) (c : Nat) (l : List ByteArray) (w : World) (hC : Kd.C Kd.string w A l.length l) (hc : l.length ≤ c) (hlo : longZ l = false) (n : Nat) (hn : 6 ≤ n) :
    CallsIn Fence.wide n Try.prog 13 #[.slice A l.length c] w fun e w' => ∃ v, e = .returned (.tuple #[v, .int .i64 0]) ∧ w'.ownsRow w.heap.size 5 1 v (prefixesZ l).1.length (nums .u8 (prefixesZ l).1) ∧ Below w.heap.size w w' := by
  have hro : Fence.wide.round = none := rfl
  obtain ⟨ht, hl⟩ := longZ_no hlo
  have HLO := Aside0.mk (strings_long.calls 100001 A c l (longZ l) w hC hc (long_eq (by omega) (by omega)))
  rw [hlo] at HLO
  have HC := Aside0.mk hC
  have HT := Aside0.mk ht
  have HL := Aside0.mk hl
  have HLW := Aside0.mk hlo
  have HNN := Aside0.mk hn
  have h1n : 1 ≤ n := by omega
  clear hC hlo ht hn
  refine callsIn_of_wp_marks Try.func13 rfl trivial ?_ hro
  simp only [Try.ntmps13, List.size_toArray, List.length_cons, List.length_nil, Nat.reduceAdd, Nat.reduceSub, Array.replicate_succ, Array.replicate_zero, List.push_toArray, List.append_toArray, List.nil_append, List.cons_append]
  gi_wp2_with (refine ⟨trivial, ?_⟩; gi_at_call 26; refine (callsIn_wide.2 HLO.out).mono ?_; rintro e W1 ⟨rfl, hb1⟩; have HB1 := Aside0.mk hb1; clear hb1)
  gi_wp2_with (refine ⟨trivial, ?_⟩; gi_at_call 30; refine (callsIn_wide.2 (pairs_in A c l _)).mono ?_; rintro e w' ⟨rfl, rfl⟩)
  refine lays_named fun W6 hW6 => ?_
  have hsz : ((W1.alloc (.cells #[.slice none 0 0] 47)).alloc (.cells #[.slice none 0 0] 22)).heap.size = W1.heap.size + 2 := by rw [World.size_alloc, World.size_alloc]
  obtain ⟨ga, hga⟩ : ∃ ga, ga = W1.heap.size := ⟨_, rfl⟩
  obtain ⟨gr, hgr⟩ : ∃ gr, gr = ga + 1 := ⟨_, rfl⟩
  obtain ⟨gb, hgb⟩ : ∃ gb, gb = gr + 1 := ⟨_, rfl⟩
  rw [← hga, ← hgr, ← hgb]
  have HS0 := Aside0.mk (show PfS w ga gr gb (W6.heap.size - 2) A c l.length [] [] (.slice none 0 0) (.slice none 0 0) W6 from by
    have b1 := below_alloc (Below.refl W1.heap.size W1) (.cells #[.slice none 0 0] 47)
    have b2 := below_alloc b1 (.cells #[.slice none 0 0] 22)
    have b3 := below_alloc b2 (.cells #[.slice A l.length c] 22)
    rw [hW6]
    refine ⟨?_, ?_, Kd.R_nil _ _ _ _ _, Kd.R_nil _ _ _ _ _, below_alloc (below_alloc (below_alloc HB1.out _) _) _, ?_, by rw [World.size_alloc, hsz]; omega⟩
    · rw [hga]
      exact blk_alloc (blk_alloc (blk_new W1 _) _) _
    · rw [hgr, hga]
      have := blk_new (W1.alloc (.cells #[.slice none 0 0] 47)) (.cells #[.slice none 0 0] 22)
      rw [World.size_alloc] at this
      exact blk_alloc this _
    · rw [hgb, hgr, hga, ← hsz]
      exact blk_new _ _)
  have HLT := Aside0.mk (show w.heap.size ≤ ga ∧ gr = ga + 1 ∧ gb = ga + 2 ∧ W6.heap.size = ga + 3 from ⟨by rw [hga]; exact HB1.out.size, by omega, by omega, by rw [hW6, World.size_alloc, hsz]; omega⟩)
  clear hsz hga hgr hgb hW6
  refine wpIn_rangeFunc_lays (encs := encP) (Ab := fun P Q => Below P.heap.size P Q) (Kp := KeepsBut (fun j => w.heap.size ≤ j ∧ j ≠ gb)) (G := PrG l) (S := fun xs => xs = pairsZ l) (Sp := fun _ => True) (N := (pairsZ l).length) hro h1n (gf := 44) (lb := #[.pointer (some ⟨gb, 0, none⟩)]) rfl trivial (enters_of Try.func44 (by kernel_rfl) rfl)
    ?hseq (fun P Q h j o h1 h2 hj hcc => (h.block j (blk_lt hj)).trans hj) (fun h j => h.trans j) (fun P Q h => KeepsBut.of_turns h (fun j h1 h2 => ⟨by have := HLT.out; omega, by have := HLT.out; omega⟩)) (fun _ => rfl)
    (PfI w ga gr gb W6.heap.size A c l.length) (fun _ _ _ => False) (fun pre P Q ⟨va, vr, h⟩ hb => ⟨va, vr, h.grow hb⟩) (fun _ _ _ _ h _ => h.elim) (fun pre P Q ⟨va, vr, h⟩ ht => ⟨va, vr, h.turns ht (by have := HLT.out; omega) (by have := HLT.out; omega) (by have := HLT.out; omega) (by have := HLT.out; omega)⟩) (fun _ _ _ _ h _ => h.elim)
    ?h0 (fun pre x a' W' => ∃ g6 va vr, a' = prAct A c l.length ga gr gb g6 x ∧ PfS w ga gr gb W6.heap.size A c l.length pre (restsZ pre) va vr W' ∧ W'.heap[g6]? = some (.cells #[.int .i64 x.1, .string x.2] 52 (0, 0)) ∧ W6.heap.size + 2 ≤ g6 ∧ some g6 ≠ va.ownBlock ∧ PrG l pre x W')
    ?hAx ?assign ?body ?done (fun _ _ _ _ _ _ _ h _ => h.elim)
  case hseq =>
    intro q1 q2
    have hS := HS0.out.grow (below_step (below_alloc (Below.refl W6.heap.size W6) q1) (below_alloc (Below.refl _ _) q2))
    exact pairs1_lays (n - 1) (by have := HNN.out; omega) ⟨HC.out, hc, hl, fun s hs => by have := size_le_tot l s hs; have := HT.out; omega, hS.hb, hS.hgb, fun j h => h.1, fun h => h.2 rfl⟩
  case h0 =>
    intro q1 q2
    have hS := HS0.out.grow (below_step (below_alloc (Below.refl W6.heap.size W6) q1) (below_alloc (Below.refl _ _) q2))
    exact ⟨_, _, hS.hga, hS.hgr, hS.hoa, hS.hor, hS.hb, hS.hgb, by rw [World.size_alloc, World.size_alloc]; omega⟩
  case hAx =>
    rintro pre x a' P Q ⟨g6, va, vr, rfl, h, h6, hg, hne, hG⟩ ht
    exact ⟨g6, va, vr, rfl, h.turns ht (by have := HLT.out; omega) (by have := HLT.out; omega) (by have := HLT.out; omega) (by have := HLT.out; omega), ht.at h6 (.inr hg), hg, hne, hG⟩
  case assign =>
    rintro lr pre ⟨xc, xs⟩ Wa K ⟨va, vr, h⟩ hG hlen hK
    clear HS0
    have HH := Aside0.mk h
    have HKK := Aside0.mk hK
    clear h hK
    unfold encP
    simp only [Array.zip, List.zip_cons_cons, List.foldl_cons, List.foldl_nil]
    gi_wp2
    have hb := below_alloc (Below.refl Wa.heap.size Wa) (.cells #[.int .i64 xc, .string xs] 52)
    exact HKK.out _ _ (KeepsTwo.of_below hb HH.out.hB) (KeepsBut.of_below hb) ⟨Wa.heap.size, va, vr, rfl, HH.out.grow hb, blk_new _ _, HH.out.hB, fun he => Nat.lt_irrefl _ (Kd.R_lt HH.out.hoa _ he.symm), hG⟩
  case body =>
    rintro lr pre ⟨xc, xs⟩ a' Wr ⟨g6, va, vr, rfl, h, h6, hB6, hne6, hG⟩ hlen
    obtain ⟨hx0, hx1, hx2⟩ : 0 ≤ xc ∧ xc ≤ (xs.size : Int) ∧ xs ∈ l := by
      obtain ⟨r, hr⟩ := hG
      exact pairsF_rests l ⟨#[]⟩ (xc, xs) (by show (xc, xs) ∈ pairsZ l; rw [← hr]; simp)
    have HPL := Aside0.mk (show pre.length ≤ 65536 from by rw [pairsZ, pairsF_length] at hlen; omega)
    clear hG hlen HS0
    have HH := Aside0.mk h
    have H6 := Aside0.mk h6
    have qa : Wr.cell? ⟨ga, 0, none⟩ = some va := blk_cell h.hga 0
    have q60 : Wr.cell? ⟨g6, 0, none⟩ = some (.int .i64 xc) := blk_cell h6 0
    have q61 : Wr.cell? ⟨g6, 1, none⟩ = some (.string xs) := blk_cell h6 1
    clear h h6
    unfold prAct
    refine wpIn_block ?_
    refine wpIn_seq_k fun K7 hK7 => ?_
    have HK7 := Aside0.mk hK7
    clear hK7
    refine shut_then ?_
    refine region_round (by kernel_rfl) (by rintro ⟨_, _, h⟩; exact h) ?_
    refine wpList_named2 fun Q' hQ' => ?_
    go_wp2_with (first
      | ((with_reducible refine gate_builtin (b := .append) (xs := #[.tmp 15, .tmp 17]) rfl ?_); at_builtin; refine Kd.R_append PK (w0 := w) w.heap.size rfl (.tmp 15) (.tmp 17) 47 52 (.agg #[.int .i64 0, .string ⟨#[]⟩]) 24 rfl Try.underlying47 sp_info rfl (by decide) (by omega) va pre (xc, xs) [.int .i64 xc, .string xs] (fun _ => True) (fun _ => False) rfl rfl (PK_mkM _ _ _ _) (fun _ hk => hk.elim) (fun _ _ => trivial) HH.out.hoa HH.out.hb HH.out.hb.size (by have := HPL.out; omega) ?_; intro v1 w1 ho1 hb1 hg1 hat1; obtain ⟨Av1, cv1, rfl⟩ := Kd.R_slice ho1; obtain ⟨hS7, hK7, hT7, ea7⟩ := HH.out.putA ho1 hb1 hg1 (by have := HLT.out; omega) (by have := HLT.out; omega) (by have := HLT.out; omega); have HS7 := Aside0.mk hS7; have HP7 := Aside0.mk hK7; have HT7 := Aside0.mk hT7; have H67 := Aside0.mk (show (w1.setCell ⟨ga, 0, none⟩ (.slice Av1 (pre ++ [(xc, xs)]).length cv1)).heap[g6]? = some (.cells #[.int .i64 xc, .string xs] 52 (0, 0)) from blk_far ((hg1.block g6 (blk_lt H6.out) hne6).trans H6.out) (p := ⟨ga, 0, none⟩) (by have := HLT.out; simp only []; omega) _); have c7 : w1.cell? ⟨ga, 0, none⟩ = some va := blk_cell ea7 0; have f7 : w1.frozen? ⟨ga, 0, none⟩ = false := blk_frozen ea7 0; clear ho1 hb1 hg1 hat1 hS7 hK7 hT7 ea7))
    refine hQ'.out _ _ ?_
    clear hQ' Q'
    simp only [Exit.then]
    refine HK7.out _ _ ?_
    clear HK7 K7
    refine lays_named fun W8 hW8 => ?_
    have HS8 := Aside0.mk (show PfS w ga gr gb W6.heap.size A c l.length (pre ++ [(xc, xs)]) (restsZ pre) (.slice Av1 (pre ++ [(xc, xs)]).length cv1) vr W8 from by rw [hW8, ← List.length_singleton (a := (xc, xs)), ← List.length_append]; exact HS7.out)
    have HP8 := Aside0.mk (show KeepsBut (fun j => w.heap.size ≤ j ∧ j ≠ gb) Wr W8 from by rw [hW8, ← List.length_singleton (a := (xc, xs)), ← List.length_append]; exact HP7.out)
    have HT8 := Aside0.mk (show KeepsTwo W6.heap.size Wr W8 from by rw [hW8, ← List.length_singleton (a := (xc, xs)), ← List.length_append]; exact HT7.out)
    have H68 := Aside0.mk (show W8.heap[g6]? = some (.cells #[.int .i64 xc, .string xs] 52 (0, 0)) from by rw [hW8, ← List.length_singleton (a := (xc, xs)), ← List.length_append]; exact H67.out)
    have HPL2 := Aside0.mk (show (restsZ pre).length ≤ 65536 from by have := HPL.out; simpa [restsZ] using this)
    clear hW8 HS7 HP7 HT7 H67 c7 f7 qa q60 q61
    refine wpIn_region_round (S := fun w' => w'.cell? ⟨g6, 0, none⟩ = some (.int .i64 xc) ∧ w'.cell? ⟨g6, 1, none⟩ = some (.string xs)) (by kernel_rfl) (by kernel_rfl) (by rintro ⟨_, _, h⟩; exact h) ⟨blk_cell H68.out 0, blk_cell H68.out 1⟩ (fun hHeld => ?_)
    refine anyH_named fun w3 hw3 => ?_
    have hHeld2 : w3.cell? ⟨g6, 0, none⟩ = some (.int .i64 xc) ∧ w3.cell? ⟨g6, 1, none⟩ = some (.string xs) := by rw [hw3]; exact hHeld
    clear hHeld
    have hHeld := hHeld2
    clear hHeld2
    have HS3 := Aside0.mk (show PfS w ga gr gb W6.heap.size A c l.length (pre ++ [(xc, xs)]) (restsZ pre) (.slice Av1 (pre ++ [(xc, xs)]).length cv1) vr w3 from by rw [hw3]; exact HS8.out.grow (below_drew1 (Below.refl _ _)))
    have HP3 := Aside0.mk (show KeepsBut (fun j => w.heap.size ≤ j ∧ j ≠ gb) Wr w3 from by rw [hw3]; exact HP8.out.trans (KeepsBut.of_below (below_drew1 (Below.refl _ _))))
    have HT3 := Aside0.mk (show KeepsTwo W6.heap.size Wr w3 from by rw [hw3]; exact HT8.out.trans (two_below (below_drew1 (Below.refl _ _))))
    have H63 := Aside0.mk (show w3.heap[g6]? = some (.cells #[.int .i64 xc, .string xs] 52 (0, 0)) from by rw [hw3]; exact H68.out)
    have c3 : w3.cell? ⟨gr, 0, none⟩ = some vr := blk_cell HS3.out.hgr 0
    obtain ⟨y, hy⟩ : ∃ y, y = xs.extract xc.toNat xs.size := ⟨_, rfl⟩
    have c4 : (w3.alloc (.cells #[.string y] 9)).cell? ⟨gr, 0, none⟩ = some vr := blk_cell (blk_alloc HS3.out.hgr _) 0
    have HY := Aside0.mk (show y = restOf (xc, xs) from hy)
    clear hw3 HS8 HP8 HT8 H68
    refine wpAnyH_take (i := 1) (oi := { dst := some 20, op := Op.fieldAddr 52 (Operand.tmp 6) 1, type := 0, pos := "strings.go:89", after := #[], guard := none }) (v := .pointer (some ⟨g6, 1, none⟩)) rfl (by kernel_rfl) (by kernel_rfl) (by kernel_rfl) (fun _ _ _ h => h) (Or.inl ⟨by rfl, ?_⟩) (by assumption) ?_
    · (intro w hSw; (try dsimp only at hSw); obtain ⟨s0, s1⟩ := hSw; go_simp)
    try simp only [Act.put, List.setIfInBounds_toArray, List.set_cons_zero, List.set_cons_succ]
    refine wpAnyH_take (i := 2) (oi := { dst := some 21, op := Op.load 9 (Operand.tmp 20), type := 9, pos := "strings.go:89", after := #[{ on := 1, ground := Ground.data }], guard := none }) (v := .string xs) rfl (by kernel_rfl) (by kernel_rfl) (by kernel_rfl) (fun _ _ _ h => h) (Or.inl ⟨by rfl, ?_⟩) (by assumption) ?_
    · (intro w hSw; (try dsimp only at hSw); obtain ⟨s0, s1⟩ := hSw; go_simp)
    try simp only [Act.put, List.setIfInBounds_toArray, List.set_cons_zero, List.set_cons_succ]
    refine wpAnyH_take (i := 3) (oi := { dst := some 22, op := Op.fieldAddr 52 (Operand.tmp 6) 0, type := 0, pos := "strings.go:89", after := #[], guard := none }) (v := .pointer (some ⟨g6, 0, none⟩)) rfl (by kernel_rfl) (by kernel_rfl) (by kernel_rfl) (fun _ _ _ h => h) (Or.inl ⟨by rfl, ?_⟩) (by assumption) ?_
    · (intro w hSw; (try dsimp only at hSw); obtain ⟨s0, s1⟩ := hSw; go_simp)
    try simp only [Act.put, List.setIfInBounds_toArray, List.set_cons_zero, List.set_cons_succ]
    refine wpAnyH_take (i := 4) (oi := { dst := some 23, op := Op.load 3 (Operand.tmp 22), type := 3, pos := "strings.go:89", after := #[{ on := 3, ground := Ground.data }], guard := none }) (v := .int .i64 xc) rfl (by kernel_rfl) (by kernel_rfl) (by kernel_rfl) (fun _ _ _ h => h) (Or.inl ⟨by rfl, ?_⟩) (by assumption) ?_
    · (intro w hSw; (try dsimp only at hSw); obtain ⟨s0, s1⟩ := hSw; go_simp)
    try simp only [Act.put, List.setIfInBounds_toArray, List.set_cons_zero, List.set_cons_succ]
    refine wpAnyH_take (i := 5) (oi := { dst := some 24, op := Op.slice 9 (Operand.tmp 21) (some (Operand.tmp 23)) none none, type := 9, pos := "strings.go:89", after := #[{ on := 2, ground := Ground.data }, { on := 4, ground := Ground.data }], guard := none }) (v := .string (xs.extract xc.toNat xs.size)) rfl (by kernel_rfl) (by kernel_rfl) (by kernel_rfl) (fun _ _ _ h => h) (Or.inl ⟨by rfl, ?_⟩) (by assumption) ?_
    · (intro w hSw; (try dsimp only at hSw); obtain ⟨s0, s1⟩ := hSw; go_simp)
    try simp only [Act.put, List.setIfInBounds_toArray, List.set_cons_zero, List.set_cons_succ]
    rw [← hy]
    clear hy
    refine wpAnyH_ready (rs := [0, 6]) (by kernel_rfl) (by simp) ?_
    refine AllReadyH.cons (o := { dst := some 19, op := Op.load 22 (Operand.tmp 5), type := 22, pos := "strings.go:89", after := #[], guard := none }) rfl (fun K hK => ?_) ?_
    · go_simp
      refine hK.out _ _ ⟨blk_cell H63.out 0, blk_cell H63.out 1⟩ (fun hHeld2 => ?_)
      clear hK K hHeld
      have hHeld := hHeld2
      clear hHeld2
      try simp only [Act.put, List.setIfInBounds_toArray, List.set_cons_zero, List.set_cons_succ]
      refine wpAnyH_ready (rs := [6]) (by kernel_rfl) (by simp) ?_
      refine AllReadyH.cons (o := { dst := some 25, op := Op.buildSlice 22 1 #[(0, Operand.tmp 24)], type := 22, pos := "strings.go:89", after := #[{ on := 5, ground := Ground.data }], guard := none }) rfl (fun K hK => ?_) ?_
      · go_simp
        refine hK.out _ _ ⟨blk_cell (blk_alloc H63.out _) 0, blk_cell (blk_alloc H63.out _) 1⟩ (fun hHeld2 => ?_)
        clear hK K hHeld
        have hHeld := hHeld2
        clear hHeld2
        try simp only [Act.put, List.setIfInBounds_toArray, List.set_cons_zero, List.set_cons_succ]
        refine wpAnyH_ready (rs := [7]) (by kernel_rfl) (by simp) ?_
        refine AllReadyH.cons (o := { dst := some 26, op := Op.call { callee := Callee.builtin Builtin.append, args := #[Operand.tmp 19, Operand.tmp 25], argTypes := #[22, 22] }, type := 22, pos := "strings.go:89", after := #[{ on := 0, ground := Ground.data }, { on := 6, ground := Ground.data }], guard := none }) rfl (fun K hK => ?_) ?_
        · refine Kd.R_append_step Kd.string (w0 := w) w.heap.size (by rfl) (.tmp 19) (.tmp 25) 22 9 (.string ⟨#[]⟩) 16 rfl Try.underlying22 ss_info rfl (by decide) (by omega) vr (restsZ pre) y [.string y] (fun _ => True) (fun _ => False) rfl rfl rfl (fun _ hk => hk.elim) (fun _ _ => trivial) HS3.out.hor HS3.out.hb HS3.out.hb.size (by have := HPL2.out; omega) ?_
          intro v2 w2 ho2 hb2 hg2 hat2
          obtain ⟨Av2, cv2, hv2⟩ := Kd.R_slice ho2
          obtain ⟨m2, hm2⟩ : ∃ m2, m2 = (restsZ pre ++ [y]).length := ⟨_, rfl⟩
          rw [← hm2] at hv2
          subst hv2
          clear hm2
          obtain ⟨hS9, hK9, hT9, er9⟩ := HS3.out.putR ho2 hb2 hg2 (by have := HLT.out; omega) (by have := HLT.out; omega) (by have := HLT.out; omega)
          have HS9 := Aside0.mk hS9
          have HP9 := Aside0.mk hK9
          have HT9 := Aside0.mk hT9
          have H62 := Aside0.mk (show w2.heap[g6]? = some (.cells #[.int .i64 xc, .string xs] 52 (0, 0)) from (hg2.block g6 (blk_lt H63.out) (R_ne HS3.out.hor H63.out (by decide))).trans H63.out)
          have c9 : w2.cell? ⟨gr, 0, none⟩ = some vr := blk_cell er9 0
          have f9 : w2.frozen? ⟨gr, 0, none⟩ = false := blk_frozen er9 0
          clear ho2 hb2 hg2 hat2 hS9 hK9 hT9 er9
          refine hK.out _ _ ⟨blk_cell H62.out 0, blk_cell H62.out 1⟩ (fun hHeld2 => ?_)
          clear hK K hHeld
          have hHeld := hHeld2
          clear hHeld2
          try simp only [Act.put, List.setIfInBounds_toArray, List.set_cons_zero, List.set_cons_succ]
          refine wpAnyH_ready (rs := [8]) (by kernel_rfl) (by simp) ?_
          refine AllReadyH.cons (o := { dst := none, op := Op.store 22 (Operand.tmp 5) (Operand.tmp 26), type := 0, pos := "strings.go:89", after := #[{ on := 7, ground := Ground.data }, { on := 7, ground := Ground.chain }, { on := 0, ground := Ground.phase }, { on := 1, ground := Ground.phase }, { on := 2, ground := Ground.phase }, { on := 3, ground := Ground.phase }, { on := 4, ground := Ground.phase }, { on := 5, ground := Ground.phase }, { on := 6, ground := Ground.phase }, { on := 7, ground := Ground.phase }], guard := none }) rfl (fun K hK => ?_) ?_
          · have H69 := Aside0.mk (blk_far H62.out (p := ⟨gr, 0, none⟩) (by have := HLT.out; simp only []; omega) (.slice Av2 m2 cv2))
            go_simp
            refine hK.out _ _ ⟨blk_cell H69.out 0, blk_cell H69.out 1⟩ (fun hHeld2 => ?_)
            clear hK K hHeld
            have hHeld := hHeld2
            clear hHeld2
            try simp only [Act.put, List.setIfInBounds_toArray, List.set_cons_zero, List.set_cons_succ]
            refine wpAnyH_done (by kernel_rfl) ?_ _
            exact ⟨HT3.out.trans HT9.out, HP3.out.trans HP9.out, _, _, by rw [restsZ_append, ← HY.out]; exact HS9.out⟩
          exact AllReadyH.nil
        exact AllReadyH.nil
      exact AllReadyH.nil
    refine AllReadyH.cons (o := { dst := some 25, op := Op.buildSlice 22 1 #[(0, Operand.tmp 24)], type := 22, pos := "strings.go:89", after := #[{ on := 5, ground := Ground.data }], guard := none }) rfl (fun K hK => ?_) ?_
    · go_simp
      refine hK.out _ _ ⟨blk_cell (blk_alloc H63.out _) 0, blk_cell (blk_alloc H63.out _) 1⟩ (fun hHeld2 => ?_)
      clear hK K hHeld
      have hHeld := hHeld2
      clear hHeld2
      try simp only [Act.put, List.setIfInBounds_toArray, List.set_cons_zero, List.set_cons_succ]
      refine wpAnyH_ready (rs := [0]) (by kernel_rfl) (by simp) ?_
      refine AllReadyH.cons (o := { dst := some 19, op := Op.load 22 (Operand.tmp 5), type := 22, pos := "strings.go:89", after := #[], guard := none }) rfl (fun K hK => ?_) ?_
      · go_simp
        refine hK.out _ _ ⟨blk_cell (blk_alloc H63.out _) 0, blk_cell (blk_alloc H63.out _) 1⟩ (fun hHeld2 => ?_)
        clear hK K hHeld
        have hHeld := hHeld2
        clear hHeld2
        try simp only [Act.put, List.setIfInBounds_toArray, List.set_cons_zero, List.set_cons_succ]
        refine wpAnyH_ready (rs := [7]) (by kernel_rfl) (by simp) ?_
        refine AllReadyH.cons (o := { dst := some 26, op := Op.call { callee := Callee.builtin Builtin.append, args := #[Operand.tmp 19, Operand.tmp 25], argTypes := #[22, 22] }, type := 22, pos := "strings.go:89", after := #[{ on := 0, ground := Ground.data }, { on := 6, ground := Ground.data }], guard := none }) rfl (fun K hK => ?_) ?_
        · refine Kd.R_append_step Kd.string (w0 := w) w.heap.size (by rfl) (.tmp 19) (.tmp 25) 22 9 (.string ⟨#[]⟩) 16 rfl Try.underlying22 ss_info rfl (by decide) (by omega) vr (restsZ pre) y [.string y] (fun _ => True) (fun _ => False) rfl rfl rfl (fun _ hk => hk.elim) (fun _ _ => trivial) HS3.out.hor HS3.out.hb HS3.out.hb.size (by have := HPL2.out; omega) ?_
          intro v2 w2 ho2 hb2 hg2 hat2
          obtain ⟨Av2, cv2, hv2⟩ := Kd.R_slice ho2
          obtain ⟨m2, hm2⟩ : ∃ m2, m2 = (restsZ pre ++ [y]).length := ⟨_, rfl⟩
          rw [← hm2] at hv2
          subst hv2
          clear hm2
          obtain ⟨hS9, hK9, hT9, er9⟩ := HS3.out.putR ho2 hb2 hg2 (by have := HLT.out; omega) (by have := HLT.out; omega) (by have := HLT.out; omega)
          have HS9 := Aside0.mk hS9
          have HP9 := Aside0.mk hK9
          have HT9 := Aside0.mk hT9
          have H62 := Aside0.mk (show w2.heap[g6]? = some (.cells #[.int .i64 xc, .string xs] 52 (0, 0)) from (hg2.block g6 (blk_lt H63.out) (R_ne HS3.out.hor H63.out (by decide))).trans H63.out)
          have c9 : w2.cell? ⟨gr, 0, none⟩ = some vr := blk_cell er9 0
          have f9 : w2.frozen? ⟨gr, 0, none⟩ = false := blk_frozen er9 0
          clear ho2 hb2 hg2 hat2 hS9 hK9 hT9 er9
          refine hK.out _ _ ⟨blk_cell H62.out 0, blk_cell H62.out 1⟩ (fun hHeld2 => ?_)
          clear hK K hHeld
          have hHeld := hHeld2
          clear hHeld2
          try simp only [Act.put, List.setIfInBounds_toArray, List.set_cons_zero, List.set_cons_succ]
          refine wpAnyH_ready (rs := [8]) (by kernel_rfl) (by simp) ?_
          refine AllReadyH.cons (o := { dst := none, op := Op.store 22 (Operand.tmp 5) (Operand.tmp 26), type := 0, pos := "strings.go:89", after := #[{ on := 7, ground := Ground.data }, { on := 7, ground := Ground.chain }, { on := 0, ground := Ground.phase }, { on := 1, ground := Ground.phase }, { on := 2, ground := Ground.phase }, { on := 3, ground := Ground.phase }, { on := 4, ground := Ground.phase }, { on := 5, ground := Ground.phase }, { on := 6, ground := Ground.phase }, { on := 7, ground := Ground.phase }], guard := none }) rfl (fun K hK => ?_) ?_
          · have H69 := Aside0.mk (blk_far H62.out (p := ⟨gr, 0, none⟩) (by have := HLT.out; simp only []; omega) (.slice Av2 m2 cv2))
            go_simp
            refine hK.out _ _ ⟨blk_cell H69.out 0, blk_cell H69.out 1⟩ (fun hHeld2 => ?_)
            clear hK K hHeld
            have hHeld := hHeld2
            clear hHeld2
            try simp only [Act.put, List.setIfInBounds_toArray, List.set_cons_zero, List.set_cons_succ]
            refine wpAnyH_done (by kernel_rfl) ?_ _
            exact ⟨HT3.out.trans HT9.out, HP3.out.trans HP9.out, _, _, by rw [restsZ_append, ← HY.out]; exact HS9.out⟩
          exact AllReadyH.nil
        exact AllReadyH.nil
      exact AllReadyH.nil
    exact AllReadyH.nil
  case done =>
    rename_i K0 hK0
    rintro D ps Wd hD1 hD2 hps ⟨va, vr, hS⟩ hDD
    have hpl : ps.length = l.length := by rw [hps, pairsZ, pairsF_length]
    have hfi : ∀ x ∈ firstsZ ps, D13.inI x := fun x hx => by
      obtain ⟨p, hp, rfl⟩ := List.mem_map.1 hx
      rw [hps] at hp
      obtain ⟨h1, h2, h3⟩ := pairsF_rests l ⟨#[]⟩ p hp
      have := size_le_tot l _ h3
      have := HT.out
      unfold D13.inI
      omega
    have hrl : longZ (restsZ ps) = false := by rw [hps]; exact rests_short HLW.out
    obtain ⟨A2, c2, rfl, hc2, hC2⟩ := Kd.R_reads hS.hoa
    obtain ⟨A3, c3, rfl, hc3, hC3⟩ := Kd.R_reads hS.hor
    have HN := Aside0.mk (nums_pair A2 c2 ps Wd hC2 hc2 (by omega))
    have HWr := Aside0.mk (fun (W : World) (A1 : Option Addr) (c1 : Nat) (h : Kd.C (Kd.int .i64) W A1 (firstsZ ps).length (firstsZ ps)) (hc1 : (firstsZ ps).length ≤ c1) => delta_Write.calls 3000 A1 c1 (firstsZ ps) (D13.listB (firstsZ ps)) 0 W h hc1 (D13.write_eq (by omega) hfi (by rw [firstsZ_length]; omega)))
    have HLn := Aside0.mk (fun (W : World) (h : Kd.C Kd.string W A3 (restsZ ps).length (restsZ ps)) => lengths_all A3 c3 (restsZ ps) W h hc3 (by simp [restsZ]; omega))
    rw [lengthsZ_fine hrl] at HLn
    have HE := Aside0.mk (show (prefixesZ l).1 = D13.listB (firstsZ ps) ++ (D13.listB (lensZ (restsZ ps)) ++ flatZ (restsZ ps)) from by unfold prefixesZ; rw [if_neg (by rw [HLW.out]; decide), ← hps, lengthsZ_fine hrl])
    have HB5 := Aside0.mk (show 5 ≤ (D13.listB (lensZ (restsZ ps)) ++ flatZ (restsZ ps)).length from by
      have := D13.listB_five (lensZ_inI (l := restsZ ps) (by have := (longZ_no hrl).1; omega)) (by rw [lensZ_length]; have := (longZ_no hrl).2; omega)
      rw [List.length_append]; omega)
    have HBN := Aside0.mk (show (D13.listB (firstsZ ps)).length + (D13.listB (lensZ (restsZ ps)) ++ flatZ (restsZ ps)).length ≤ 100000000 from by
      have h1 := D13.listB_short hfi (by rw [firstsZ_length]; omega)
      have h2 := D13.listB_short (lensZ_inI (l := restsZ ps) (by have := (longZ_no hrl).1; omega)) (by rw [lensZ_length]; have := (longZ_no hrl).2; omega)
      have h3 := (longZ_no hrl).1
      rw [List.length_append, flatZ_length]; omega)
    obtain ⟨rs, hrs⟩ : ∃ rs, rs = restsZ ps := ⟨_, rfl⟩
    obtain ⟨bs, hbs⟩ : ∃ bs, bs = D13.listB (lensZ rs) ++ flatZ rs := ⟨_, rfl⟩
    obtain ⟨as_, has⟩ : ∃ as_, as_ = D13.listB (firstsZ ps) := ⟨_, rfl⟩
    obtain ⟨fs, hfs⟩ : ∃ fs, fs = firstsZ ps := ⟨_, rfl⟩
    rw [← hrs, ← hbs] at HLn HE HB5 HBN
    rw [← has] at HE HBN HWr
    rw [← hfs] at HN HWr
    rw [← hrs] at hC3
    have qa : Wd.cell? ⟨ga, 0, none⟩ = some (.slice A2 ps.length c2) := blk_cell hS.hga 0
    have HGR := Aside0.mk hS.hgr
    rw [← hrs] at HGR
    have HBd := Aside0.mk hS.hb
    have HC3 := Aside0.mk hC3
    have HDD := Aside0.mk hDD
    clear hrs hbs has hfs hS hDD hps hpl hfi hrl hC2 hc2 hC3 hc3 HS0 HLO
    refine hK0 _ _ ?_
    refine wpIn_wide.2 ?_
    clear hK0 K0
    go_wp2_with (first
      | (go_at_call 31; refine HN.out.mono ?_; rintro e W2 ⟨v2, rfl, ho2, hb2⟩; obtain ⟨A4, c4, rfl⟩ := own_formD ho2; obtain ⟨k1, k2, k3⟩ := Kd.R_reads' (Kd.R_of_own (enc := Value.int .i64) (h1 := fun _ => rfl) (ok := fun _ => True) ho2 (fun _ _ => trivial)); have HW2 := Aside0.mk (HWr.out W2 A4 c4 k3 k2); have HB2 := Aside0.mk hb2; clear ho2 hb2 k1 k2 k3 HN HWr)
      | (go_at_call 27; refine HW2.out.mono ?_; rintro e W3 ⟨v3, rfl, hR3, hb3⟩; obtain ⟨A5, c5, rfl⟩ := Kd.R_slice hR3; have HB3 := Aside0.mk (below_then HB2.out HB2.out.size hb3); have HR3 := Aside0.mk (Kd.R_lower hR3 (Nat.le_trans HBd.out.size HB2.out.size)); have q5 : W3.cell? ⟨gr, 0, none⟩ = some (.slice A3 rs.length c3) := blk_cell (blk_below HGR.out HB3.out) 0; have HL3 := Aside0.mk (HLn.out W3 (Kd.C_below HC3.out HB3.out)); clear hR3 hb3 HW2)
      | (go_at_call 12; refine HL3.out.mono ?_; rintro e W5 ⟨v5, rfl, ho5, hb5⟩; obtain ⟨A6, c6, rfl⟩ := own_formD ho5; have HB6 := Aside0.mk (below_then HB3.out HB3.out.size hb5); have HBw := Aside0.mk (show Below w.heap.size w W5 from HBd.out.trans (HB6.out.mono HBd.out.size)); have HSw := Aside0.mk HBw.out.size; have HR5 := Aside0.mk (show W5.ownsRow w.heap.size 5 1 (.slice A5 as_.length c5) as_.length (nums .u8 as_) from Kd.own_of_R (enc := Value.int .u8) (h1 := fun _ => rfl) (Kd.R_below HR3.out hb5)); have HC5 := Aside0.mk ((Kd.R_reads' (Kd.R_of_own (enc := Value.int .u8) (h1 := fun _ => rfl) (ok := fun _ => True) ho5 (fun _ _ => trivial))).2.2); clear ho5 hb5 HL3)
      | ((with_reducible refine gate_builtin (b := .append) (xs := #[.tmp 41, .tmp 42]) rfl ?_); at_builtin; refine print_append_row (w0 := w) w.heap.size rfl (.tmp 41) (.tmp 42) 25 5 .u8 1 rfl Try.underlying25 dg_info (by decide) _ as_ bs A6 bs.length c6 rfl rfl HR5.out (Kd.reads_of_C HC5.out) HBw.out HSw.out (by have := HBN.out; omega) ?_; intro v7 w7 ho7 hb7 hg7 hat7; have HO7 := Aside0.mk ho7; have HB7 := Aside0.mk hb7; have HD7 := Aside0.mk (show w7.heap[D]? = some (.deferred (some [])) from two_grown (B := D) hg7 (own_typed HR5.out) D _ (Nat.le_refl _) (by omega) (blk_below HDD.out HB6.out) rfl); clear ho7 hb7 hg7 hat7))
    have hgr := grownBy_putObj' w7 D (.deferred none)
    refine ⟨by simp, .inl ⟨_, _, rfl, run_takeDeferred HD7.out, ?_⟩⟩
    refine ⟨_, results_tmp2 rfl _ _ _, _, rfl, ?_, ?_⟩
    · rw [HE.out]
      refine own_other HO7.out hgr (.inr fun he => ?_)
      have he : v7.ownBlock = some D := he
      obtain ⟨cells, hcl⟩ := own_typed HO7.out D he
      rw [HD7.out] at hcl
      cases hcl
    · exact HB7.out.trans (belowK_b (w := w) (Nat.le_refl _) w7 D _ (.deferred none) (by have := HLT.out; omega) HD7.out rfl rfl)
theorem prefixesZ_long {l : List ByteArray} (h : longZ l = true) : prefixesZ l = ([], 3) := by unfold prefixesZ; rw [if_pos h]
theorem prefixesZ_fine {l : List ByteArray} (h : longZ l = false) : prefixesZ l = (D13.listB (firstsZ (pairsZ l)) ++ (lengthsZ (restsZ (pairsZ l))).1, 0) := by unfold prefixesZ; rw [if_neg (by rw [h]; decide)]
set_option maxHeartbeats 2000000 in
theorem prefixes_all (A : Option Addr) (c : Nat) (l : List ByteArray) (w : World) (hC : Kd.C Kd.string w A l.length l) (hc : l.length ≤ c) (hl : l.length ≤ 100000) :
    Calls Try.prog 13 #[.slice A l.length c] w fun e w' => ∃ v, e = .returned (.tuple #[v, .int .i64 (prefixesZ l).2]) ∧ w'.ownsRow w.heap.size 5 1 v (prefixesZ l).1.length (nums .u8 (prefixesZ l).1) ∧ Below w.heap.size w w' := by
  by_cases hlo : longZ l = true
  · have HLO := Aside0.mk (strings_long.calls 100001 A c l (longZ l) w hC hc (long_eq hl (by omega)))
    rw [prefixesZ_long hlo]
    rw [hlo] at HLO
    clear hC hlo hl
    go_enter Try.func13, Try.ntmps13
    go_wp2_with fail
    refine HLO.out.mono ?_
    rintro e W1 ⟨rfl, hb1⟩
    have HB1 := Aside0.mk hb1
    clear hb1
    go_wp2
    go_ret2
    exact ⟨_, rfl, World.ownsRow_nil _ _ _ _, HB1.out⟩
  · have hlo : longZ l = false := by simpa using hlo
    refine ((callsIn_wide (n := 6)).1 (prefixes_main A c l w hC hc hlo 6 (Nat.le_refl _))).mono ?_
    rintro e w' ⟨v, rfl, h⟩
    exact ⟨v, by rw [prefixesZ_fine hlo], h⟩
end Go.Proofs.Ytcdephhplmcmjaa.X
end

section
namespace Go.Proofs.Ytcdephhplmcmjaa.X
open Go.RowKit Go.Proofs.YtcdephhplmcmjaaW.PrintWords Go.Proofs.YtcdephhplmcmjaaW.PrintLast Go.Proofs.YtcdephhplmcmjaaW.PrintMore
attribute [local go_sem] max2_int min2_int max_two min_two max_three min_three max_four min_four
set_option linter.unusedVariables false
set_option linter.unusedSimpArgs false
def strings_Prefixes.f (l0 : List ByteArray) : Option (List Int × Int) := if l0.length ≤ 100000 then some (prefixesZ l0) else none
theorem strings_Prefixes.calls (A0 : Option Addr) (c0 : Nat) (l0 : List ByteArray) (r1 : List Int) (r2 : Int) (w : World) (hr0 : Kd.C Kd.string w A0 l0.length l0) (hc0 : l0.length ≤ c0) (h : strings_Prefixes.f l0 = some (r1, r2)) :
    Calls Try.prog 13 #[.slice A0 l0.length c0] w fun e w' => ∃ v0_ : Value, e = .returned (.tuple #[v0_, .int .i64 r2]) ∧ Kd.R (Kd.int .u8) 5 w' w.heap.size (fun _ => True) v0_ r1 ∧ Below w.heap.size w w' := by
  unfold strings_Prefixes.f at h
  by_cases hu : l0.length ≤ 100000
  · rw [if_pos hu] at h
    have h := Option.some.inj h
    refine (prefixes_all A0 c0 l0 w hr0 hc0 hu).mono ?_
    rintro e w' ⟨v, rfl, ho, hb⟩
    rw [h] at ho ⊢
    exact ⟨v, rfl, Kd.R_of_own (enc := Value.int .u8) (h1 := fun _ => rfl) ho (fun _ _ => trivial), hb⟩
  · rw [if_neg hu] at h; cases h
end Go.Proofs.Ytcdephhplmcmjaa.X
end

section
namespace Go.Proofs.Ytcdephhplmcmjaa.X
open Go.RowKit Go.Proofs.YtcdephhplmcmjaaW.PrintWords Go.Proofs.YtcdephhplmcmjaaW.PrintLast Go.Proofs.YtcdephhplmcmjaaW.PrintMore
attribute [local go_sem] max2_int min2_int max_two min_two max_three min_three max_four min_four
set_option linter.unusedVariables false
set_option linter.unusedSimpArgs false
def marquetrylaw14_num.f (a0 : Int) : Option (Int) := some a0
set_option maxHeartbeats 8000000 in
set_option maxRecDepth 100000 in
theorem marquetrylaw14_num.calls (a0 : Int) (r : Int) (w : World) (h : marquetrylaw14_num.f a0 = some r) :
  Calls Try.prog 16 #[.int .i64 a0] w fun e w' => e = .returned (.int .i64 r) ∧ Drawn0 w w' := by
 have H : (some a0) = some r := h
 clear h
 obtain rfl := Option.some.inj H
 go_enter Try.func16, Try.ntmps16
 go_wp2
 go_ret
 exact ⟨by first | rfl | (simp; done) | (simp [*]; done), by repeat (first | exact Drawn0.refl _ | apply Drawn0.step)⟩
end Go.Proofs.Ytcdephhplmcmjaa.X
end

section
namespace Go.Proofs.Ytcdephhplmcmjaa.X
open Go.RowKit Go.Proofs.YtcdephhplmcmjaaW.PrintWords Go.Proofs.YtcdephhplmcmjaaW.PrintLast Go.Proofs.YtcdephhplmcmjaaW.PrintMore
attribute [local go_sem] max2_int min2_int max_two min_two max_three min_three max_four min_four
set_option linter.unusedVariables false
set_option linter.unusedSimpArgs false
def marquetrylaw14_same.l0 : Nat → List ByteArray → List ByteArray → Int → Option (Bool)
 | 0, _, _, _ => none
 | k + 1, x0, x1, x5 => if x5 < (x0.length : Int) then (if 0 ≤ x5 then (if x5 < (x1.length : Int) then (if (rdOf ByteArray.empty x0 x5).toList = (rdOf ByteArray.empty x1 x5).toList then (marquetrylaw14_same.l0 k x0 x1 (wrap64 (x5 + 1))) else (some false)) else (none)) else (none)) else (some true)
def marquetrylaw14_same.f (k : Nat) (l0 : List ByteArray) (l1 : List ByteArray) : Option (Bool) := if (l0.length : Int) = (l1.length : Int) then (marquetrylaw14_same.l0 k l0 l1 0) else (some false)
theorem marquetrylaw14_same.mono_l : ∀ k, (∀ y0 y1 y2, LeO (marquetrylaw14_same.l0 k y0 y1 y2) (marquetrylaw14_same.l0 (k + 1) y0 y1 y2))
 | 0 => fun _ _ _ r h => by simp [marquetrylaw14_same.l0] at h
 | k + 1 => by
  have ih0 := marquetrylaw14_same.mono_l k
  ·intro y0 y1 y2
   unfold marquetrylaw14_same.l0
   repeat' first
   | (with_reducible exact ih0 _ _ _)
   | (with_reducible exact LeO.refl _)
   | (with_reducible exact LeO.none _)
   | (with_reducible refine LeO.ite ?_ ?_)
   | (with_reducible refine LeO.bind ?_ (fun _ => ?_))
   | exact ih0 _ _ _
   | exact LeO.none _
   | refine LeO.ite ?_ ?_
   | refine LeO.bind ?_ (fun _ => ?_)
theorem marquetrylaw14_same.mono : ∀ a0 a1 k, LeO (marquetrylaw14_same.f k a0 a1) (marquetrylaw14_same.f (k + 1) a0 a1) := by
 intro a0 a1 k
 have ih0 := marquetrylaw14_same.mono_l k
 unfold marquetrylaw14_same.f
 repeat' first
   | (with_reducible exact ih0 _ _ _)
   | (with_reducible exact LeO.refl _)
   | (with_reducible exact LeO.none _)
   | (with_reducible refine LeO.ite ?_ ?_)
   | (with_reducible refine LeO.bind ?_ (fun _ => ?_))
   | exact ih0 _ _ _
   | exact LeO.none _
   | refine LeO.ite ?_ ?_
   | refine LeO.bind ?_ (fun _ => ?_)
set_option maxHeartbeats 8000000 in
set_option maxRecDepth 100000 in
theorem marquetrylaw14_same.calls (k : Nat) (A0 : Option Addr) (c0 : Nat) (l0 : List ByteArray) (A1 : Option Addr) (c1 : Nat) (l1 : List ByteArray) (r : Bool) (w : World) (hr0 : Kd.C Kd.string w A0 l0.length l0) (hc0 : l0.length ≤ c0) (hr1 : Kd.C Kd.string w A1 l1.length l1) (hc1 : l1.length ≤ c1) (h : marquetrylaw14_same.f k l0 l1 = some r) :
  Calls Try.prog 17 #[.slice A0 l0.length c0, .slice A1 l1.length c1] w fun e w' => e = .returned (.bool r) ∧ Drawn0 w w' := by
 have HR0 := Aside0.mk hr0
 have HC0 := Aside0.mk hc0
 clear hr0 hc0
 have HR1 := Aside0.mk hr1
 have HC1 := Aside0.mk hc1
 clear hr1 hc1
 have H : (if (l0.length : Int) = (l1.length : Int) then (marquetrylaw14_same.l0 k l0 l1 0) else (some false)) = some r := h
 clear h
 by_cases c3 : (l0.length : Int) = (l1.length : Int)
 ·rw [if_pos c3] at H
  have c3b0 : ((l0.length : Int) == (l1.length : Int)) = true := beq_iff_eq.mpr c3
  have c3b1 : ((l0.length : Int) != (l1.length : Int)) = false := bne_eq_false_iff_eq.mpr c3
  have c3b2 : (l0.length == l1.length) = true := by first | simpa using c3 | (simp at c3 ⊢; omega)
  clear c3
  have H' := Aside0.mk H
  clear H
  go_enter Try.func17, Try.ntmps17
  go_wp2
  repeat (go_quiet (fail); try go_wp2)
  go_loopg [5] k (fun kq v5 w' => ∃ (x5_1 : Int), v5 = .int .i64 x5_1 ∧ Aside0 (marquetrylaw14_same.l0 kq l0 l1 x5_1 = some r) ∧ Aside0 (kq ≤ k) ∧ Drawn0 w w')
  case atStart => exact ⟨(0), (by first | rfl | (simp; done) | (simp [*]; done)), H', ⟨Nat.le_refl _⟩, by repeat (first | exact Drawn0.refl _ | apply Drawn0.step)⟩
  case round =>
   clear H'
   try clear c1
   try clear p2
   try clear c3
   try clear c3b0
   try clear c3b1
   try clear c3b2
   obtain ⟨x5_1, rfl, HA, HK1, ⟨m1, rfl⟩⟩ := hrel
   cases gk with
   | zero => exact absurd HA.out (by simp [marquetrylaw14_same.l0])
   | succ k1 =>
    have H := HA.out
    clear HA
    simp only [marquetrylaw14_same.l0] at H
    by_cases c4 : x5_1 < (l0.length : Int)
    ·rw [if_pos c4] at H
     have c4b0 : decide (x5_1 < (l0.length : Int)) = true := decide_eq_true c4
     clear c4
     by_cases c5 : 0 ≤ x5_1
     ·rw [if_pos c5] at H
      have c5b0 : decide (0 ≤ x5_1) = true := decide_eq_true c5
      clear c5
      by_cases c6 : x5_1 < (l1.length : Int)
      ·rw [if_pos c6] at H
       have c6b0 : decide (x5_1 < (l1.length : Int)) = true := decide_eq_true c6
       clear c6
       by_cases c7 : (rdOf ByteArray.empty l0 x5_1).toList = (rdOf ByteArray.empty l1 x5_1).toList
       ·rw [if_pos c7] at H
        have c7b0 : ((rdOf ByteArray.empty l0 x5_1).toList == (rdOf ByteArray.empty l1 x5_1).toList) = true := beq_iff_eq.mpr c7
        have c7b1 : ((rdOf ByteArray.empty l0 x5_1).toList != (rdOf ByteArray.empty l1 x5_1).toList) = false := bne_eq_false_iff_eq.mpr c7
        clear c7
        have H' := Aside0.mk H
        clear H
        have p124 : 0 ≤ (x5_1 : Int) := of_decide_eq_true (by first | (with_reducible assumption) | assumption)
        have q124 : x5_1 < (l0.length : Int) := of_decide_eq_true (by first | (with_reducible assumption) | assumption)
        obtain ⟨ad124, e124, hx124_0⟩ := Kd.at_string HR0.out x5_1 p124 q124
        cases e124
        replace p124 := eq_true p124
        replace q124 := eq_true q124
        have p125 : 0 ≤ (x5_1 : Int) := of_decide_eq_true (by first | (with_reducible assumption) | assumption)
        have q125 : x5_1 < (l1.length : Int) := of_decide_eq_true (by first | (with_reducible assumption) | assumption)
        obtain ⟨ad125, e125, hx125_0⟩ := Kd.at_string HR1.out x5_1 p125 q125
        cases e125
        replace p125 := eq_true p125
        replace q125 := eq_true q125
        go_wp2
        repeat (go_quiet (fail); try go_wp2)
        go_roundg k1
        case measure => have := HK1.out; omega
        case rel => exact ⟨(wrap64 (x5_1 + 1)), (by first | rfl | (simp; done) | (simp [*]; done)), H', ⟨by have := HK1.out; omega⟩, by repeat (first | exact Drawn0.refl _ | apply Drawn0.step)⟩
       ·rw [if_neg c7] at H
        have c7b0 : ((rdOf ByteArray.empty l0 x5_1).toList == (rdOf ByteArray.empty l1 x5_1).toList) = false := beq_eq_false_iff_ne.mpr c7
        have c7b1 : ((rdOf ByteArray.empty l0 x5_1).toList != (rdOf ByteArray.empty l1 x5_1).toList) = true := bne_iff_ne.mpr c7
        obtain rfl := Option.some.inj H
        have p124 : 0 ≤ (x5_1 : Int) := of_decide_eq_true (by first | (with_reducible assumption) | assumption)
        have q124 : x5_1 < (l0.length : Int) := of_decide_eq_true (by first | (with_reducible assumption) | assumption)
        obtain ⟨ad124, e124, hx124_0⟩ := Kd.at_string HR0.out x5_1 p124 q124
        cases e124
        replace p124 := eq_true p124
        replace q124 := eq_true q124
        have p125 : 0 ≤ (x5_1 : Int) := of_decide_eq_true (by first | (with_reducible assumption) | assumption)
        have q125 : x5_1 < (l1.length : Int) := of_decide_eq_true (by first | (with_reducible assumption) | assumption)
        obtain ⟨ad125, e125, hx125_0⟩ := Kd.at_string HR1.out x5_1 p125 q125
        cases e125
        replace p125 := eq_true p125
        replace q125 := eq_true q125
        go_wp2
        repeat (go_quiet (fail); try go_wp2)
        go_ret
        exact ⟨by first | rfl | (simp; done) | (simp [*]; done), by repeat (first | exact Drawn0.refl _ | apply Drawn0.step)⟩
      ·rw [if_neg c6] at H
       exact absurd H (by simp)
     ·rw [if_neg c5] at H
      exact absurd H (by simp)
    ·rw [if_neg c4] at H
     have c4b0 : decide (x5_1 < (l0.length : Int)) = false := decide_eq_false c4
     clear c4
     obtain rfl := Option.some.inj H
     go_wp2
     repeat (go_quiet (fail); try go_wp2)
     go_ret
     exact ⟨by first | rfl | (simp; done) | (simp [*]; done), by repeat (first | exact Drawn0.refl _ | apply Drawn0.step)⟩
 ·rw [if_neg c3] at H
  have c3b0 : ((l0.length : Int) == (l1.length : Int)) = false := beq_eq_false_iff_ne.mpr c3
  have c3b1 : ((l0.length : Int) != (l1.length : Int)) = true := bne_iff_ne.mpr c3
  have c3b2 : (l0.length == l1.length) = false := by first | simpa using c3 | (simp at c3 ⊢; omega)
  obtain rfl := Option.some.inj H
  go_enter Try.func17, Try.ntmps17
  go_wp2
  repeat (go_quiet (fail); try go_wp2)
  go_ret
  exact ⟨by first | rfl | (simp; done) | (simp [*]; done), by repeat (first | exact Drawn0.refl _ | apply Drawn0.step)⟩
end Go.Proofs.Ytcdephhplmcmjaa.X
end

section
namespace Go.Proofs.Ytcdephhplmcmjaa.X
open Go.RowKit Go.Proofs.YtcdephhplmcmjaaW.PrintWords Go.Proofs.YtcdephhplmcmjaaW.PrintLast Go.Proofs.YtcdephhplmcmjaaW.PrintMore
set_option linter.unusedVariables false
set_option linter.unusedSimpArgs false
def sailP (why : Int) : List PanicEntry := [{ v := .iface 77 (.agg #[.int .i64 why]), recovered := false }]
theorem st_must_ok (why : Int) (w : World) : Calls Try.prog 50 #[.bool true, .int .i64 why] w fun e w' => (∃ v, e = .returned v) ∧ w' = w := by
  go_enter Try.func50, Try.ntmps50
  go_wp2
  go_end0
  exact ⟨⟨_, rfl⟩, rfl⟩
theorem st_must_no (why : Int) (w : World) : Calls Try.prog 50 #[.bool false, .int .i64 why] w fun e w' => e = .panicked (sailP why) ∧ w' = w := by
  go_enter Try.func50, Try.ntmps50
  go_wp2
  exact ⟨rfl, rfl, rfl⟩
def LfI (w0 : World) (g : Nat) (t1 t2 : Value) (b : List Int) (W : World) : Prop :=
  ∃ A c, W.heap[g]? = some (.cells #[.slice A b.length c, t1, t2] 81 (0, 0)) ∧ Kd.C (Kd.int .u8) w0 A b.length b ∧ b.length ≤ c ∧ Below w0.heap.size w0 W ∧ w0.heap.size ≤ g ∧ (∀ x ∈ b, 0 ≤ x ∧ x ≤ 255) ∧ b.length ≤ 140737488355328
def LfO {α : Type} (w0 : World) (g : Nat) (t1 t2 : Value) (W : World) (own : World → Value → α → Prop) (res : Except Int (α × List Int)) (e : Ending) (W' : World) : Prop :=
  Below w0.heap.size w0 W' ∧ W.grownBy W' (some g) ∧ match res with
    | .ok (v, r) => ∃ val, e = .returned val ∧ LfI w0 g t1 t2 r W' ∧ own W' val v
    | .error x => e = .panicked (sailP x)
theorem LfI.lt {w0 W : World} {g : Nat} {t1 t2 : Value} {b : List Int} (h : LfI w0 g t1 t2 b W) : g < W.heap.size := by obtain ⟨_, _, h, _⟩ := h; exact blk_lt h
theorem LfI.below {w0 W : World} {g : Nat} {t1 t2 : Value} {b : List Int} (h : LfI w0 g t1 t2 b W) : Below w0.heap.size w0 W := by obtain ⟨_, _, _, _, _, h, _⟩ := h; exact h
theorem LfI.keep {w0 W W' : World} {g : Nat} {t1 t2 : Value} {b : List Int} (h : LfI w0 g t1 t2 b W) (hb : Below W.heap.size W W') : LfI w0 g t1 t2 b W' := by
  obtain ⟨A, c, h1, h2, h3, h4, h5⟩ := h
  exact ⟨A, c, blk_below h1 hb, h2, h3, h4.trans (hb.mono h4.size), h5⟩
theorem LfI.other {w0 W W' : World} {g : Nat} {t1 t2 : Value} {b : List Int} {row : Option Nat} (h : LfI w0 g t1 t2 b W) (hg : W.grownBy W' row) (hne : some g ≠ row) (hb : Below w0.heap.size w0 W') : LfI w0 g t1 t2 b W' := by
  obtain ⟨A, c, h1, h2, h3, _, h5⟩ := h
  exact ⟨A, c, (hg.block g (blk_lt h1) hne).trans h1, h2, h3, hb, h5⟩
theorem beginR_le {b l : List Int} {n x : Int} (h : D13.beginR b = (l, n, x)) : 0 ≤ n ∧ n ≤ b.length ∧ l.length ≤ 65536 ∧ ∀ x ∈ l, D13.inI x := by
  unfold D13.beginR at h
  cases hs : listS b with
  | error y =>
    rw [hs] at h
    obtain ⟨rfl, rfl, _⟩ : [] = l ∧ 0 = n ∧ y = x := by simpa using h
    exact ⟨by omega, by omega, by simp, fun x hx => by cases hx⟩
  | ok p =>
    obtain ⟨l1, r⟩ := p
    rw [hs] at h
    simp only [] at h
    split at h
    · obtain ⟨rfl, rfl, _⟩ : l1 = l ∧ ((b.length - r.length : Nat) : Int) = n ∧ 0 = x := by simpa using h
      exact ⟨by omega, by omega, listS_len hs, D13.listS_in hs⟩
    · obtain ⟨rfl, rfl, _⟩ : [] = l ∧ 0 = n ∧ 8 = x := by simpa using h
      exact ⟨by omega, by omega, by simp, fun x hx => by cases hx⟩
def numsT (count : Int) (b : List Int) : Except Int (List Int × List Int) :=
  if (D13.beginR b).2.2 = 0 then (if ((D13.beginR b).1.length : Int) = count then .ok ((D13.beginR b).1, b.drop (D13.beginR b).2.1.toNat) else .error 8) else .error (D13.beginR b).2.2
def ownI (w0 : World) (W : World) (v : Value) (l : List Int) : Prop := W.ownsRow w0.heap.size 2 1 v l.length (nums .i64 l)
set_option maxHeartbeats 2000000 in
theorem left_numbers (w0 : World) (g : Nat) (t1 t2 : Value) (count : Int) (b : List Int) (W : World) (hI : LfI w0 g t1 t2 b W) :
    Calls Try.prog 52 #[.pointer (some ⟨g, 0, none⟩), .int .i64 count] W (LfO w0 g t1 t2 W (ownI W) (numsT count b)) := by
  obtain ⟨A, c, hg, hC, hc, hB, hg0, hu, hbl⟩ := id hI
  have MO := Aside0.mk (fun why W => st_must_ok why W)
  have MN := Aside0.mk (fun why W => st_must_no why W)
  obtain ⟨l, n, x, hr⟩ : ∃ l n x, D13.beginR b = (l, n, x) := ⟨_, _, _, rfl⟩
  have HBG := Aside0.mk (delta_Begin.calls 3000 A c b l n x W (Kd.C_below hC hB) hc ((D13.begin_eq (by omega) hu).trans (congrArg some hr)))
  obtain ⟨hn0, hn1, hll, _⟩ := beginR_le hr
  have q0 : W.cell? ⟨g, 0, none⟩ = some (.slice A b.length c) := blk_cell hg 0
  have HI := Aside0.mk hI
  have HBel := Aside0.mk hB
  have HRR := Aside0.mk hr
  unfold numsT
  rw [hr]
  simp only []
  by_cases hx : x = 0
  · subst hx
    rw [if_pos rfl]
    obtain ⟨i0, hi0, _, hsz, _⟩ := info_parts info5
    obtain ⟨A1, hcut, hDd, hC1⟩ := print_drop_of (P := Try.prog) (Value.int .u8) 0 25 5 .i64 Try.underlying25 hi0 hsz A c b n hn0 hn1 hc
    have HD := Aside0.mk (Kd.C_of_reads (h1 := fun _ => rfl) (hDd _ (Kd.reads_of_C hC)))
    have H1 := Aside0.mk hC1
    have HU := Aside0.mk (show (∀ x ∈ b.drop n.toNat, 0 ≤ x ∧ x ≤ 255) ∧ (b.drop n.toNat).length ≤ 140737488355328 from ⟨fun x hx => hu x (List.mem_of_mem_drop hx), by rw [List.length_drop]; omega⟩)
    have HG0 := Aside0.mk hg0
    have HG := Aside0.mk hg
    obtain ⟨ld, hld⟩ : ∃ ld, ld = b.drop n.toNat := ⟨_, rfl⟩
    rw [← hld] at hcut HD H1 HU ⊢
    have hcw : wrap64 ((l.length : Nat) : Int) = (l.length : Int) := Bx.w64 (by omega) (by omega)
    by_cases hcl : (l.length : Int) = count
    · have q1 : ((l.length : Int) == count) = true := beq_iff_eq.2 hcl
      rw [if_pos hcl]
      clear hcl hr hC hc hB hg hg0 hu hbl hI hDd hC1 hld hn0 hn1 hll hi0 hsz
      go_enter Try.func52, Try.ntmps52
      go_wp2_with fail
      refine HBG.out.mono ?_
      rintro e W1 ⟨v1, rfl, hR1, hb1⟩
      obtain ⟨Al, cl, rfl⟩ := Kd.R_slice hR1
      have HB1 := Aside0.mk hb1
      have HO1 := Aside0.mk (show W1.ownsRow W.heap.size 2 1 (.slice Al l.length cl) l.length (nums .i64 l) from Kd.own_of_R (enc := Value.int .i64) (h1 := fun _ => rfl) hR1)
      have HG1 := Aside0.mk (blk_below HG.out hb1)
      clear hR1 hb1 HBG q0
      have q0 : W1.cell? ⟨g, 0, none⟩ = some (.slice A b.length c) := blk_cell HG1.out 0
      have f0 : W1.frozen? ⟨g, 0, none⟩ = false := blk_frozen HG1.out 0
      go_wp2_with fail
      refine (MO.out _ _).mono ?_
      rintro e W2 ⟨⟨v2, rfl⟩, hx⟩
      have hx := hx.symm
      subst hx
      go_wp2_with fail
      refine (MO.out _ _).mono ?_
      rintro e W3 ⟨⟨v3, rfl⟩, hx⟩
      have hx := hx.symm
      subst hx
      go_wp2
      go_ret
      exact ⟨(HBel.out.trans (HB1.out.mono HBel.out.size)).setCell HG0.out _, grown_trans (grown_below HB1.out) (grown_set _ _ _ _), _, rfl, ⟨_, _, blk_set HG1.out 0 _, HD.out, H1.out, (HBel.out.trans (HB1.out.mono HBel.out.size)).setCell HG0.out _, HG0.out, HU.out⟩, own_setCell HO1.out (own_ne HO1.out HG1.out (by decide)) _⟩
    · have q1 : ((l.length : Int) == count) = false := beq_eq_false_iff_ne.2 hcl
      rw [if_neg hcl]
      clear hcl hr hC hc hB hg hg0 hu hbl hI hDd hC1 hld hn0 hn1 hll hi0 hsz
      go_enter Try.func52, Try.ntmps52
      go_wp2_with fail
      refine HBG.out.mono ?_
      rintro e W1 ⟨v1, rfl, hR1, hb1⟩
      obtain ⟨Al, cl, rfl⟩ := Kd.R_slice hR1
      have HB1 := Aside0.mk hb1
      clear hR1 hb1 HBG q0
      go_wp2_with fail
      refine (MO.out _ _).mono ?_
      rintro e W2 ⟨⟨v2, rfl⟩, hx⟩
      have hx := hx.symm
      subst hx
      go_wp2_with fail
      refine (MN.out _ _).mono ?_
      rintro e W3 ⟨rfl, hx⟩
      have hx := hx.symm
      subst hx
      exact ⟨rfl, HBel.out.trans (HB1.out.mono HBel.out.size), grown_below HB1.out, rfl⟩
  · have q1 : (x == 0) = false := beq_eq_false_iff_ne.2 hx
    rw [if_neg hx]
    clear hx hr hC hc hB hg hg0 hu hbl hI hn0 hn1 hll
    go_enter Try.func52, Try.ntmps52
    go_wp2_with fail
    refine HBG.out.mono ?_
    rintro e W1 ⟨v1, rfl, hR1, hb1⟩
    have HB1 := Aside0.mk hb1
    clear hR1 hb1 HBG q0
    go_wp2_with fail
    refine (MN.out _ _).mono ?_
    rintro e W3 ⟨rfl, hx⟩
    have hx := hx.symm
    subst hx
    exact ⟨rfl, HBel.out.trans (HB1.out.mono HBel.out.size), grown_below HB1.out, rfl⟩
end Go.Proofs.Ytcdephhplmcmjaa.X
end

section
namespace Go.Proofs.Ytcdephhplmcmjaa.X
open Go.RowKit Go.Proofs.YtcdephhplmcmjaaW.PrintWords Go.Proofs.YtcdephhplmcmjaaW.PrintLast Go.Proofs.YtcdephhplmcmjaaW.PrintMore
set_option linter.unusedVariables false
set_option linter.unusedSimpArgs false
def sumT : List Int → Int → Except Int Int
  | [], s => .ok s
  | n :: l, s => if 0 ≤ n then (if n ≤ 1048576 - s then sumT l (s + n) else .error 3) else .error 8
def cutT : List Int → List Int → List ByteArray × List Int
  | [], b => ([], b)
  | n :: l, b => (strOfNums (b.take n.toNat) :: (cutT l (b.drop n.toNat)).1, (cutT l (b.drop n.toNat)).2)
def textsT (count : Int) (b : List Int) : Except Int (List ByteArray × List Int) :=
  match numsT count b with
  | .error x => .error x
  | .ok (l, r) => match sumT l 0 with
    | .error x => .error x
    | .ok s => if s ≤ (r.length : Int) then .ok (cutT l r) else .error 6
def sumI : List Int → Int
  | [] => 0
  | n :: l => n + sumI l
theorem sumT_ok : ∀ (l : List Int) (s t : Int), sumT l s = .ok t → 0 ≤ s → s ≤ 1048576 → (∀ n ∈ l, 0 ≤ n) ∧ t = s + sumI l ∧ t ≤ 1048576
  | [], s, t, h, h0, h1 => by
    rw [sumT] at h
    cases h
    exact ⟨fun n hn => (by cases hn), by simp [sumI], h1⟩
  | n :: l, s, t, h, h0, h1 => by
    rw [sumT] at h
    split at h
    · rename_i c0
      split at h
      · obtain ⟨i1, i2, i3⟩ := sumT_ok l (s + n) t h (by omega) (by omega)
        refine ⟨fun m hm => ?_, by rw [sumI, i2]; omega, i3⟩
        rcases List.mem_cons.1 hm with rfl | hm
        · exact c0
        · exact i1 m hm
      · cases h
    · cases h
theorem sumI_nn : ∀ l : List Int, (∀ n ∈ l, 0 ≤ n) → 0 ≤ sumI l
  | [], _ => by simp [sumI]
  | n :: l, h => by
    have := sumI_nn l (fun m hm => h m (List.mem_cons_of_mem _ hm))
    have := h n List.mem_cons_self
    rw [sumI]; omega
def ownT (w0 : World) (W : World) (v : Value) (l : List ByteArray) : Prop := Kd.string.R 9 W w0.heap.size (fun _ => True) v l
theorem num_at {w : World} {A : Option Addr} {n : Nat} {l : List Int} (h : Kd.C (Kd.int .i64) w A n l) {i : Nat} {x : Int} (hx : l[i]? = some x) : ∃ ad, A = some ad ∧ w.cell? (ad.add i) = some (.int .i64 x) := by
  have hl := Kd.C_len h
  have hi := (List.getElem?_eq_some_iff.1 hx).1
  obtain ⟨ad, e, hc⟩ := c_at h (i : Int) (by omega) (by omega)
  rw [show rd l (i : Int) = x by unfold rd; simp [List.getD_eq_getElem?_getD, hx]] at hc
  exact ⟨ad, e, hc⟩
theorem drop_at {α : Type} {l : List α} {i : Nat} {x : α} (hx : l[i]? = some x) : l.drop i = x :: l.drop (i + 1) := by
  obtain ⟨hlt, hge⟩ := List.getElem?_eq_some_iff.1 hx
  rw [List.drop_eq_getElem_cons hlt, hge]
set_option maxRecDepth 100000 in
set_option maxHeartbeats 4000000 in
theorem left_texts (w0 : World) (g : Nat) (t1 t2 : Value) (count : Int) (b : List Int) (W : World) (hI : LfI w0 g t1 t2 b W) :
    Calls Try.prog 51 #[.pointer (some ⟨g, 0, none⟩), .int .i64 count] W (LfO w0 g t1 t2 W (ownT W) (textsT count b)) := by
  have MO := Aside0.mk (fun why W => st_must_ok why W)
  have MN := Aside0.mk (fun why W => st_must_no why W)
  have HN := Aside0.mk (left_numbers w0 g t1 t2 count b W hI)
  have H0W := Aside0.mk hI.below.size
  have HBL := Aside0.mk (show (numsT count b) = numsT count b from rfl)
  clear hI HBL
  unfold textsT
  cases hn : numsT count b with
  | error x =>
    rw [hn] at HN
    clear hn
    simp only []
    go_enter Try.func51, Try.ntmps51
    go_wp2_with fail
    refine HN.out.mono ?_
    rintro e W1 ⟨hb1, hg1, h1⟩
    have h1 : e = .panicked (sailP x) := h1
    subst h1
    exact ⟨rfl, hb1, hg1, rfl⟩
  | ok p =>
    obtain ⟨l, r1⟩ := p
    rw [hn] at HN
    have hll : l.length ≤ 65536 := by
      unfold numsT at hn
      have := beginR_le (b := b) (l := (D13.beginR b).1) (n := (D13.beginR b).2.1) (x := (D13.beginR b).2.2) rfl
      split at hn
      · split at hn
        · cases hn; exact this.2.2.1
        · cases hn
      · cases hn
    clear hn
    simp only []
    obtain ⟨res, hres⟩ : ∃ res, res = (match sumT l 0 with | .error x => .error x | .ok s => if s ≤ (r1.length : Int) then .ok (cutT l r1) else .error 6 : Except Int (List ByteArray × List Int)) := ⟨_, rfl⟩
    have HRES := Aside0.mk hres
    rw [← hres]
    clear hres
    go_enter Try.func51, Try.ntmps51
    go_wp2_with fail
    refine HN.out.mono ?_
    rintro e W1 ⟨hb1, hg1, v1, rfl, hI1, ho1⟩
    obtain ⟨Al, cl, rfl⟩ := own_formD ho1
    have HB1 := Aside0.mk hb1
    have HG1 := Aside0.mk hg1
    have HI1 := Aside0.mk hI1
    have HR1 := Aside0.mk (show Kd.R (Kd.int .i64) 2 W1 W.heap.size (fun _ => True) (.slice Al l.length cl) l from Kd.R_of_own (enc := Value.int .i64) (h1 := fun _ => rfl) ho1 (fun _ _ => trivial))
    have HC1 := Aside0.mk (Kd.R_reads' HR1.out).2.2
    clear hb1 hg1 hI1 ho1 HN
    go_upto_block 0 with fail
    go_cut [6] from 18 (fun v6 wx => wx = W1 ∧ ∃ s, v6 = .int .i64 s ∧ Aside0 (sumT l 0 = .ok s))
    case first =>
      go_wp2
      go_loopw [6, 17] (fun v6 v17 wr => ∃ (i : Nat) (s : Int), v17 = .int .i64 i ∧ v6 = .int .i64 s ∧ i ≤ l.length ∧ 0 ≤ s ∧ s ≤ 1048576 ∧ Aside0 (sumT (l.drop i) s = sumT l 0) ∧ Aside0 (wr = W1)) (fun _ v17 _ => 70000 - (intOf v17).toNat)
      case atStart => exact ⟨0, 0, rfl, rfl, by omega, by omega, by omega, ⟨rfl⟩, ⟨rfl⟩⟩
      case round =>
        obtain ⟨i, s, rfl, rfl, hi, hs0, hs1, HS, HW⟩ := hrel
        have hw1 : IntKind.i64.wrap ((i : Int) + 1) = (i : Int) + 1 := IntWalk.i64_in _ (by omega)
        have hw2 : IntKind.i64.wrap (1048576 - s) = 1048576 - s := IntWalk.i64_in _ (by omega)
        by_cases ci : i < l.length
        · have q1 : decide ((i : Int) < (l.length : Int)) = true := decide_eq_true (by omega)
          have q2 : decide (i < l.length) = true := decide_eq_true ci
          obtain ⟨x, hx⟩ : ∃ x, l[i]? = some x := ⟨_, List.getElem?_eq_getElem ci⟩
          have hsx := HS.out
          rw [drop_at hx, sumT] at hsx
          obtain ⟨ad, rfl, hcell⟩ := num_at (show Kd.C (Kd.int .i64) wr Al l.length l from by rw [HW.out]; exact HC1.out) hx
          have p1 : (0 : Int) ≤ (i : Int) := by omega
          have p2 : (i : Int) < (l.length : Int) := by omega
          have p3 : ((i : Int)).toNat = i := rfl
          have Hi := Aside0.mk ci
          by_cases c0 : 0 ≤ x
          · have q3 : decide (x ≥ 0) = true := decide_eq_true c0
            rw [if_pos c0] at hsx
            by_cases c3 : x ≤ 1048576 - s
            · have q4 : decide (x ≤ 1048576 - s) = true := decide_eq_true c3
              have hw3 : IntKind.i64.wrap (s + x) = s + x := IntWalk.i64_in _ (by omega)
              rw [if_pos c3] at hsx
              have HSX := Aside0.mk hsx
              have HSB := Aside0.mk (show 0 ≤ s + x ∧ s + x ≤ 1048576 from ⟨by omega, by omega⟩)
              clear hsx hx hs0 hs1 HS c0 c3 hi ci
              go_wp2_with fail
              refine (MO.out _ _).mono ?_
              rintro e W2 ⟨⟨v2, rfl⟩, hy⟩
              have hy := hy.symm
              subst hy
              go_wp2_with fail
              refine (MO.out _ _).mono ?_
              rintro e W3 ⟨⟨v3, rfl⟩, hy⟩
              have hy := hy.symm
              subst hy
              go_wp2
              go_roundw
              case rel => exact ⟨i + 1, s + x, by go_num, rfl, Hi.out, HSB.out.1, HSB.out.2, HSX, HW⟩
              case measure => have := Hi.out; simp [intOf]; omega
            · have q4 : decide (x ≤ 1048576 - s) = false := decide_eq_false c3
              rw [if_neg c3] at hsx
              obtain rfl : res = .error 3 := by rw [HRES.out, ← hsx]
              clear hsx hx hs0 hs1 HS c0 c3 hi ci HRES
              go_wp2_with fail
              refine (MO.out _ _).mono ?_
              rintro e W2 ⟨⟨v2, rfl⟩, hy⟩
              have hy := hy.symm
              subst hy
              go_wp2_with fail
              refine (MN.out _ _).mono ?_
              rintro e W3 ⟨rfl, hy⟩
              have hy := hy.symm
              subst hy
              rw [HW.out]
              exact ⟨rfl, HB1.out, HG1.out, rfl⟩
          · have q3 : decide (x ≥ 0) = false := decide_eq_false c0
            rw [if_neg c0] at hsx
            obtain rfl : res = .error 8 := by rw [HRES.out, ← hsx]
            clear hsx hx hs0 hs1 HS c0 hi ci HRES
            go_wp2_with fail
            refine (MN.out _ _).mono ?_
            rintro e W3 ⟨rfl, hy⟩
            have hy := hy.symm
            subst hy
            rw [HW.out]
            exact ⟨rfl, HB1.out, HG1.out, rfl⟩
        · have q1 : decide ((i : Int) < (l.length : Int)) = false := decide_eq_false (by omega)
          have q2 : decide (i < l.length) = false := decide_eq_false ci
          have HSX := Aside0.mk (show sumT l 0 = .ok s from by have h := HS.out; rw [List.drop_of_length_le (by omega), sumT] at h; exact h.symm)
          clear HS hi ci hs0 hs1
          go_wp2
          go_meet
          case rel => exact ⟨HW.out, s, rfl, HSX⟩
    case rest =>
      obtain ⟨rfl, s, rfl, HS⟩ := hcut
      obtain ⟨hnn, hst, hsm⟩ := sumT_ok l 0 s HS.out (by omega) (by omega)
      have hres := HRES.out
      rw [HS.out] at hres
      simp only [] at hres
      obtain ⟨A, c, hg, hC, hc, hB, hg0, hu, hbl⟩ := id HI1.out
      have q0 : wc.cell? ⟨g, 0, none⟩ = some (.slice A r1.length c) := blk_cell hg 0
      by_cases c6 : s ≤ (r1.length : Int)
      · have q6 : decide (s ≤ (r1.length : Int)) = true := decide_eq_true c6
        rw [if_pos c6] at hres
        have HRES2 := Aside0.mk hres
        have HNN := Aside0.mk hnn
        have HSB := Aside0.mk (show sumI (l.drop 0) ≤ (r1.length : Int) from by rw [List.drop_zero]; omega)
        clear hres hg hC hc hB hg0 hu hbl hnn hst hsm c6 HRES HS
        go_wp2_with fail
        refine (MO.out _ _).mono ?_
        rintro e W2 ⟨⟨v2, rfl⟩, hy⟩
        have hy := hy.symm
        subst hy
        clear q0 q6
        go_wp2
        go_loopw [9, 43] (fun v9 v43 wr => ∃ (i : Nat) (out : List ByteArray) (r : List Int), v43 = .int .i64 i ∧ i ≤ l.length ∧ Aside0 ((out ++ (cutT (l.drop i) r).1, (cutT (l.drop i) r).2) = cutT l r1) ∧ Aside0 (sumI (l.drop i) ≤ (r.length : Int)) ∧ Aside0 (out.length = i) ∧ Aside0 (LfI w0 g t1 t2 r wr) ∧ Aside0 (Kd.string.R 9 wr W.heap.size (fun _ => True) v9 out) ∧ Aside0 (W.grownBy wr (some g)) ∧ Aside0 (Kd.R (Kd.int .i64) 2 wr W.heap.size (fun _ => True) (.slice Al l.length cl) l)) (fun _ v43 _ => 70000 - (intOf v43).toNat)
        case atStart => exact ⟨0, [], r1, rfl, by omega, ⟨by rw [List.drop_zero, List.nil_append]⟩, HSB, ⟨rfl⟩, HI1, ⟨Kd.R_nil _ _ _ _ _⟩, HG1, HR1⟩
        case round =>
          clear HSB HI1 HG1 HR1 HC1 HB1
          obtain ⟨i, out, r, rfl, hi, HCT, HSB, HOL, HI, HO, HG, HR⟩ := hrel
          have hw1 : IntKind.i64.wrap ((i : Int) + 1) = (i : Int) + 1 := IntWalk.i64_in _ (by omega)
          by_cases ci : i < l.length
          · have q1 : decide ((i : Int) < (l.length : Int)) = true := decide_eq_true (by omega)
            have q2 : decide (i < l.length) = true := decide_eq_true ci
            obtain ⟨x, hx⟩ : ∃ x, l[i]? = some x := ⟨_, List.getElem?_eq_getElem ci⟩
            have hx0 : 0 ≤ x := HNN.out x (List.mem_of_getElem? hx)
            have hsb := HSB.out
            rw [drop_at hx, sumI] at hsb
            have hs2 := sumI_nn (l.drop (i + 1)) (fun n hn => HNN.out n (List.mem_of_mem_drop hn))
            have hx1 : x ≤ (r.length : Int) := by omega
            have hct := HCT.out
            rw [drop_at hx, cutT] at hct
            obtain ⟨ad, rfl, hcell⟩ := num_at (Kd.R_reads' HR.out).2.2 hx
            obtain ⟨A, c, hg, hC, hc, hB, hg0, hu, hbl⟩ := id HI.out
            obtain ⟨i0, hi0, _, hsz, _⟩ := info_parts info5
            obtain ⟨A1, hcut, hDd, hC1⟩ := print_drop_of (P := Try.prog) (Value.int .u8) 0 25 5 .i64 Try.underlying25 hi0 hsz A c r x hx0 hx1 hc
            obtain ⟨htake, hTd, hT1⟩ := print_take_of (P := Try.prog) (Value.int .u8) 0 25 5 .i64 Try.underlying25 hi0 hsz A c r x hx0 hx1 hc
            have HD := Aside0.mk (Kd.C_of_reads (h1 := fun _ => rfl) (hDd _ (Kd.reads_of_C hC)))
            have cv : (convert 25 9 (.slice A (r.take x.toNat).length c)).run Try.prog wr = .ok (.string (strOfNums (r.take x.toNat))) wr := Kd.C_string (P := Try.prog) Try.underlying25 Try.underlying5 Try.underlying9 (Kd.C_of_reads (h1 := fun _ => rfl) (hTd _ (Kd.reads_of_C (Kd.C_below hC hB))))
            have HDB := Aside0.mk (show (r.drop x.toNat).length ≤ c - x.toNat ∧ (∀ y ∈ r.drop x.toNat, 0 ≤ y ∧ y ≤ 255) ∧ (r.drop x.toNat).length ≤ 140737488355328 from ⟨hC1, fun y hy => hu y (List.mem_of_mem_drop hy), by rw [List.length_drop]; omega⟩)
            have HSB2 := Aside0.mk (show sumI (l.drop (i + 1)) ≤ ((r.drop x.toNat).length : Int) from by rw [List.length_drop]; omega)
            have HCT2 := Aside0.mk (show ((out ++ [strOfNums (r.take x.toNat)]) ++ (cutT (l.drop (i + 1)) (r.drop x.toNat)).1, (cutT (l.drop (i + 1)) (r.drop x.toNat)).2) = cutT l r1 from by rw [← hct, List.append_assoc]; rfl)
            have q0 : wr.cell? ⟨g, 0, none⟩ = some (.slice A r.length c) := blk_cell hg 0
            have HG0 := Aside0.mk hg0
            have HGg := Aside0.mk hg
            have HBel := Aside0.mk hB
            have p1 : (0 : Int) ≤ (i : Int) := by omega
            have p2 : (i : Int) < (l.length : Int) := by omega
            have p3 : ((i : Int)).toNat = i := rfl
            have Hi := Aside0.mk ci
            obtain ⟨rt, hrt⟩ : ∃ rt, rt = r.take x.toNat := ⟨_, rfl⟩
            obtain ⟨rr, hrr⟩ : ∃ rr, rr = r.drop x.toNat := ⟨_, rfl⟩
            obtain ⟨y, hy⟩ : ∃ y, y = strOfNums rt := ⟨_, rfl⟩
            rw [← hrt] at htake cv HCT2
            rw [← hrr] at hcut HD HDB HSB2 HCT2
            rw [← hy] at cv HCT2
            clear hrt hrr hy hsb hs2 hct hx hx0 hx1 hg hC hc hB hg0 hu hbl hDd hC1 hTd hT1 hi0 hsz hi ci HSB HCT
            go_wp2_with (first
              | ((with_reducible refine gate_builtin (b := .append) (xs := #[.tmp 47, .tmp 55]) rfl ?_); at_builtin; refine Kd.R_append Kd.string (w0 := wr) W.heap.size rfl (.tmp 47) (.tmp 55) 22 9 (.string ⟨#[]⟩) 16 rfl Try.underlying22 ss_info rfl (by decide) (by omega) _ out y [.string y] (fun _ => True) (fun _ => False) rfl rfl rfl (fun _ hk => hk.elim) (fun _ _ => trivial) HO.out (Below.refl _ _) HG.out.size (by have := HOL.out; have := Hi.out; omega) ?_; intro v2 w2 ho2 hb2 hg2 hat2; obtain ⟨Av2, cv2, rfl⟩ := Kd.R_slice ho2; have HO2 := Aside0.mk ho2; have HBa := Aside0.mk hb2; have hgg := (hg2.block g (blk_lt HGg.out) (R_ne HO.out HGg.out (by decide))).trans HGg.out; have HGh := Aside0.mk hgg; have q02 : w2.cell? ⟨g, 0, none⟩ = some (.slice A r.length c) := blk_cell hgg 0; have f02 : w2.frozen? ⟨g, 0, none⟩ = false := blk_frozen hgg 0; have HR2 := Aside0.mk (Kd.R_over' HR.out (Kd.R_typed HO.out) (by decide) hg2); clear ho2 hb2 hg2 hat2 hgg cv htake))
            go_roundw
            case rel =>
              have hBw : Below w0.heap.size w0 w2 := HBel.out.trans (HBa.out.mono H0W.out)
              exact ⟨i + 1, out ++ [y], rr, by go_num, Hi.out, HCT2, HSB2, ⟨by rw [List.length_append, HOL.out]; rfl⟩, ⟨_, _, blk_set HGh.out 0 _, HD.out, HDB.out.1, hBw.setCell HG0.out _, HG0.out, HDB.out.2⟩, ⟨by have h := R_set HO2.out HGh.out (by decide) 0 (.slice A1 rr.length (c - x.toNat)); rw [List.length_append, List.length_singleton] at h; exact h⟩, ⟨grown_trans (grown_belowN HG.out HBa.out) (grown_set _ _ _ _)⟩, ⟨R_set HR2.out HGh.out (by decide) 0 _⟩⟩
            case measure => have := Hi.out; simp [intOf]; omega
          · have q1 : decide ((i : Int) < (l.length : Int)) = false := decide_eq_false (by omega)
            have q2 : decide (i < l.length) = false := decide_eq_false ci
            have hct := HCT.out
            rw [List.drop_of_length_le (by omega), cutT, List.append_nil] at hct
            have HE := Aside0.mk hct
            clear hct hi ci HSB HCT
            go_wp2
            go_ret
            rw [HRES2.out, ← HE.out]
            exact ⟨HI.out.below, HG.out, _, rfl, HI.out, HO.out⟩
      · have q6 : decide (s ≤ (r1.length : Int)) = false := decide_eq_false c6
        rw [if_neg c6] at hres
        subst hres
        clear hg hC hc hB hg0 hu hbl hnn hst hsm c6 HRES HS
        go_wp2_with fail
        refine (MN.out _ _).mono ?_
        rintro e W2 ⟨rfl, hy⟩
        have hy := hy.symm
        subst hy
        exact ⟨rfl, HB1.out, HG1.out, rfl⟩
end Go.Proofs.Ytcdephhplmcmjaa.X
end
