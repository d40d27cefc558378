/- PlainBack: the law's row, out of its plain statement (YtcklkngljapecaaPurePlainBack) and what the code comes to. No condition. -/
import Derived.Test.YtcklkngljapecaaRows
import Derived.Test.YtcklkngljapecaaGPlainBack2
import Derived.Test.YtcklkngljapecaaGPurePlainBack
import Derived.Test.YtcklkngljapecaaGPlainBack4
import Derived.WalkKit
import Derived.ProofKit
import Derived.OpenShut
import Derived.ShutString
import Derived.ChangeOld
import Derived.Below
import Derived.SizedLaws
namespace Go.Proofs.Ytcklkngljapecaa.plainBack
open Go.ChangeShapes Go.WideShapes Go.ChangeAt Go.RowKit Go.Proofs.Ytcklkngljapecaa.Rd Go.Proofs.YtcklkngljapecaaW.PrintWords Go.Proofs.Ytcklkngljapecaa.X
open Go.ChangeMaps (open_string shut_string)
set_option linter.unusedVariables false
set_option linter.unusedSimpArgs false
theorem own : ownKnob Try.prog.godebug = none := by kernel_rfl
theorem laidOut : laidOutB Try.prog = true := by kernel_rfl
set_option maxRecDepth 100000 in
theorem lifted (os : Os) (started : os.Started) (H : Type) (enc : TypeId × Value → H) :
    ReturnsInHanded {} Try.checked os 6 .any (Rows.plainBackSpec.pre6 enc Try.prog Try.f6 Rows.plainBackRow.domain false) (Rows.plainBackSpec.post enc Try.prog Try.f6 false true false false) := by
  refine returnsInHanded_of_change_sized (C := Try.checked) own started (by kernel_rfl) Try.func6
    (ChangeSpec.witness6 (enc := enc) (C := Try.checked) false ⟨#[], #[.agg #[.int .i64 0, .int .i64 0], .slice none 0 0, .agg #[.slice none 0 0, .int .i64 0]], []⟩ 8 (by kernel_rfl) (by kernel_rfl) (by kernel_rfl) (by kernel_rfl)) ?_
  intro W base args ds gs before hval0 hW hcnd hsz0 _
  have hsz : (DataW.weightsEach Try.prog (Try.f6.params.toList ++ Rows.plainBackSpec.plain.varTypes Try.prog) (ds ++ gs)).all (· ≤ reachBytes) = true := hsz0
  have hval : ∀ (j : Nat) t v, Try.f6.params[j]? = some t → args[j]? = some v → Value.okWide Try.prog W .any base t v := hval0
  have hW' := hW
  obtain ⟨p, q, hA0, hV, rfl, hfz, hnd⟩ := hW
  have hA : DataW.TrodAll enc Try.prog W 0 (fun _ => true) true Try.f6.params.toList args.toList ds p := hA0
  rw [Try.params6] at hA hval hsz
  obtain ⟨v0, vs0, d0, ds0, p0, q0, hargs, rfl, rfl, h0, r0⟩ := trodAll_cons hA
  obtain ⟨v1, vs1, d1, ds1, p1, q1, rfl, rfl, rfl, h1, r1⟩ := trodAll_cons r0
  obtain ⟨v2, vs2, d2, ds2, p2, q2, rfl, rfl, rfl, h2, r2⟩ := trodAll_cons r1
  obtain ⟨rfl, rfl, rfl⟩ := trodAll_nil r2
  obtain rfl : args = #[v0, v1, v2] := by cases args; simp_all
  obtain ⟨rfl, rfl⟩ := trodVars_none hV
  have k0 := h0
  have lt0 : ∀ x ∈ p0, x.block < W.heap.size := by obtain ⟨m, hm⟩ := k0; exact DataW.trod_lt m _ _ _ hm
  obtain ⟨cs0, rfl, _⟩ := okWide_struct Try.underlying25 (hval 0 25 v0 rfl rfl)
  obtain ⟨⟨a0_0, a0_1⟩, ⟨z0, y0, e0, rfl, rfl⟩, w0_0, w0_1⟩ := opens_arg (opens_struct2 Try.underlying25 (by kernel_rfl) (by kernel_rfl) (opens_int Try.underlying23) (opens_int Try.underlying3)) h0 hsz (j := 0) rfl rfl
  obtain rfl : cs0 = #[.int .i64 a0_0, .int .i64 a0_1] := by
    cases cs0; simpa [Value.cells] using e0
  have k1 := h1
  have lt1 : ∀ x ∈ p1, x.block < W.heap.size := by obtain ⟨m, hm⟩ := k1; exact DataW.trod_lt m _ _ _ hm
  obtain ⟨b1, len1, cap1, rfl⟩ := okWide_slice Try.underlying35 (hval 1 35 v1 rfl rfl)
  obtain ⟨l1, ⟨A1, c1, e1, hc1, hr1⟩, w1⟩ := opens_arg (opens_slice (B := 32) Try.underlying35 (by kernel_rfl) (by kernel_rfl) (opens_iso (f := fun x_ : S30 => (x_.f0, x_.f1, x_.f2)) (fun p_ => (⟨p_.1, p_.2.1, p_.2.2⟩ : S30)) (fun _ => rfl) (opens_struct3 Try.underlying30 (by kernel_rfl) (by kernel_rfl) (opens_int Try.underlying23) (opens_int Try.underlying2) (opens_string Try.underlying9)))) h1 hsz (j := 1) rfl rfl
  simp [Value.cells] at e1
  obtain ⟨rfl, rfl, rfl⟩ := e1
  have k2 := h2
  have lt2 : ∀ x ∈ p2, x.block < W.heap.size := by obtain ⟨m, hm⟩ := k2; exact DataW.trod_lt m _ _ _ hm
  obtain ⟨cs2, rfl, _⟩ := okWide_struct Try.underlying50 (hval 2 50 v2 rfl rfl)
  obtain ⟨⟨l2_0, a2_1⟩, ⟨z2, y2, e2, ⟨A2_0, c2_0, rfl, hc2_0, hr2_0⟩, rfl⟩, w2_0, w2_1⟩ := opens_arg (opens_struct2 Try.underlying50 (by kernel_rfl) (by kernel_rfl) (opens_slice (B := 1) Try.underlying22 (by kernel_rfl) (by kernel_rfl) (opens_int Try.underlying5)) (opens_int Try.underlying3)) h2 hsz (j := 2) rfl rfl
  obtain rfl : cs2 = #[.slice A2_0 l2_0.length c2_0, .int .i64 a2_1] := by
    cases cs2; simpa [Value.cells] using e2
  clear hA0 hval0 hsz0 hsz
  obtain ⟨k, hk⟩ := Pure.PlainBack a0_0 a0_1 l1 l2_0 a2_1 w0_0 w0_1 w1 w2_0 w2_1
  refine (marquetrylaw10_PlainBack.calls (k := k) (a0_0 := a0_0) (a0_1 := a0_1) (A1 := _) (c1 := _) (l1 := l1) (A2_0 := _) (c2_0 := _) (l2_0 := l2_0) (a2_1 := a2_1) (r := true) (w := W) (hr1 := hr1) (hc1 := hc1) (hr2_0 := hr2_0) (hc2_0 := hc2_0) (h := hk)).mono fun e W' ⟨he, bel0⟩ => ?_
  have bel : Below W.heap.size W W' := bel0
  subst he
  exact ⟨_, rfl, _, _, _, [], _, [], hW', trodAll_mk1 (shut_bool Try.underlying4 _), (trodAll_cons_mk (Below.trod laidOut (by kernel_rfl) (of_decide_eq_true (by kernel_rfl)) k0 bel lt0) (trodAll_cons_mk (Below.trod laidOut (by kernel_rfl) (of_decide_eq_true (by kernel_rfl)) k1 bel lt1) (trodAll_cons_mk (Below.trod laidOut (by kernel_rfl) (of_decide_eq_true (by kernel_rfl)) k2 bel lt2) trodAll_mk0))), rfl, bel.frame _, fun h => by cases h⟩
theorem over : Rows.plainBackRow.holds Try.pinned (OpenSpec.ofChange Rows.plainBackSpec) :=
  OpenClaim.holds_of_wide 6 Try.f6 rfl rfl rfl rfl rfl rfl rfl ⟨rfl, rfl, rfl, rfl, rfl⟩ rfl rfl rfl rfl rfl (by kernel_rfl) Try.func6 (by kernel_rfl)
    (of_decide_eq_true (by kernel_rfl)) (by unfold Func.isWrapper; first | (rw [if_pos (by decide +kernel)]; kernel_rfl) | (rw [if_neg (by decide +kernel)]; exact ⟨rfl, rfl⟩))
    (fun os started H enc _ => lifted os started H enc)
theorem proved : Rows.PlainBackSaid := over
#print axioms proved
end Go.Proofs.Ytcklkngljapecaa.plainBack
namespace Go.Proofs.Ytcklkngljapecaa
/-- The row, under a short name, for the claim. -/
theorem plainBack_holds : Rows.PlainBackSaid := plainBack.proved
end Go.Proofs.Ytcklkngljapecaa
