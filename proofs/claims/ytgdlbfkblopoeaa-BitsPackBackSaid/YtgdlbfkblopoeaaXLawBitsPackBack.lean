/- BitsPackBack: the law's row, out of its plain statement (YtgdlbfkblopoeaaPureBitsPackBack) and what the code comes to. No condition. -/
import Derived.Test.YtgdlbfkblopoeaaRows
import Derived.Test.YtgdlbfkblopoeaaX14
import Derived.Test.YtgdlbfkblopoeaaPureBitsPackBack
import Derived.Test.YtgdlbfkblopoeaaRd
import Derived.WalkKit
import Derived.ProofKit
import Derived.OpenShut
import Derived.ShutString
import Derived.ChangeOld
import Derived.Below
import Derived.SizedLaws
namespace Go.Proofs.Ytgdlbfkblopoeaa.bitsPackBack
open Go.ChangeShapes Go.WideShapes Go.ChangeAt Go.RowKit Go.Proofs.Ytgdlbfkblopoeaa.Rd Go.Proofs.YtgdlbfkblopoeaaW.PrintWords Go.Proofs.Ytgdlbfkblopoeaa.X
open Go.ChangeMaps (open_string shut_string)
set_option linter.unusedVariables false
set_option linter.unusedSimpArgs false
theorem own : ownKnob Try.prog.godebug = none := by kernel_rfl
theorem laidOut : laidOutB Try.prog = true := by kernel_rfl
set_option maxRecDepth 100000 in
theorem lifted (os : Os) (started : os.Started) (H : Type) (enc : TypeId × Value → H) :
    ReturnsInHanded {} Try.checked os 14 .any (Rows.bitsPackBackSpec.pre6 enc Try.prog Try.f14 Rows.bitsPackBackRow.domain false) (Rows.bitsPackBackSpec.post enc Try.prog Try.f14 false true false false) := by
  refine returnsInHanded_of_change_sized (C := Try.checked) own started (by kernel_rfl) Try.func14
    (ChangeSpec.witness6 (enc := enc) (C := Try.checked) false ⟨#[], #[.agg #[.int .i64 0, .slice none 0 0, .slice none 0 0, .int .i64 0]], []⟩ 8 (by kernel_rfl) (by kernel_rfl) (by kernel_rfl) (by kernel_rfl)) ?_
  intro W base args ds gs before hval0 hW hcnd hsz0 _
  have hsz : (DataW.weightsEach Try.prog (Try.f14.params.toList ++ Rows.bitsPackBackSpec.plain.varTypes Try.prog) (ds ++ gs)).all (· ≤ reachBytes) = true := hsz0
  have hval : ∀ (j : Nat) t v, Try.f14.params[j]? = some t → args[j]? = some v → Value.okWide Try.prog W .any base t v := hval0
  have hW' := hW
  obtain ⟨p, q, hA0, hV, rfl, hfz, hnd⟩ := hW
  have hA : DataW.TrodAll enc Try.prog W 0 (fun _ => true) true Try.f14.params.toList args.toList ds p := hA0
  rw [Try.params14] at hA hval hsz
  obtain ⟨v0, vs0, d0, ds0, p0, q0, hargs, rfl, rfl, h0, r0⟩ := trodAll_cons hA
  obtain ⟨rfl, rfl, rfl⟩ := trodAll_nil r0
  obtain rfl : args = #[v0] := by cases args; simp_all
  obtain ⟨rfl, rfl⟩ := trodVars_none hV
  have k0 := h0
  have lt0 : ∀ x ∈ p0, x.block < W.heap.size := by obtain ⟨m, hm⟩ := k0; exact DataW.trod_lt m _ _ _ hm
  obtain ⟨cs0, rfl, _⟩ := okWide_struct Try.underlying66 (hval 0 66 v0 rfl rfl)
  obtain ⟨⟨a0_0, l0_1, l0_2, a0_3⟩, ⟨z0, y0, e0, rfl, ⟨_, _, rfl, ⟨A0_1, c0_1, rfl, hc0_1, hr0_1⟩, ⟨_, _, rfl, ⟨A0_2, c0_2, rfl, hc0_2, hr0_2⟩, rfl⟩⟩⟩, w0_0, w0_1, w0_2, w0_3⟩ := opens_arg (opens_struct4 Try.underlying66 (by kernel_rfl) (by kernel_rfl) (opens_int Try.underlying3) (opens_slice (B := 8) Try.underlying56 (by kernel_rfl) (by kernel_rfl) (opens_int Try.underlying22)) (opens_slice (B := 1) Try.underlying29 (by kernel_rfl) (by kernel_rfl) (opens_int Try.underlying5)) (opens_int Try.underlying3)) h0 hsz (j := 0) rfl rfl
  obtain rfl : cs0 = #[.int .i64 a0_0, .slice A0_1 l0_1.length c0_1, .slice A0_2 l0_2.length c0_2, .int .i64 a0_3] := by
    cases cs0; simpa [Value.cells] using e0
  clear hA0 hval0 hsz0 hsz
  obtain ⟨k, hk⟩ := Pure.BitsPackBack a0_0 l0_1 l0_2 a0_3 w0_0 w0_1 w0_2 w0_3
  refine (marquetrylaw01_BitsPackBack.calls (k := k) (a0_0 := a0_0) (A0_1 := _) (c0_1 := _) (l0_1 := l0_1) (A0_2 := _) (c0_2 := _) (l0_2 := l0_2) (a0_3 := a0_3) (r := true) (w := W) (hr0_1 := hr0_1) (hc0_1 := hc0_1) (hr0_2 := hr0_2) (hc0_2 := hc0_2) (h := hk)).mono fun e W' ⟨he, bel0⟩ => ?_
  have bel : Below W.heap.size W W' := bel0
  subst he
  exact ⟨_, rfl, _, _, _, [], _, [], hW', trodAll_mk1 (shut_bool Try.underlying4 _), (trodAll_cons_mk (Below.trod laidOut (by kernel_rfl) (of_decide_eq_true (by kernel_rfl)) k0 bel lt0) trodAll_mk0), rfl, bel.frame _, fun h => by cases h⟩
theorem over : Rows.bitsPackBackRow.holds Try.pinned (OpenSpec.ofChange Rows.bitsPackBackSpec) :=
  OpenClaim.holds_of_wide 14 Try.f14 rfl rfl rfl rfl rfl rfl rfl ⟨rfl, rfl, rfl, rfl, rfl⟩ rfl rfl rfl rfl rfl (by kernel_rfl) Try.func14 (by kernel_rfl)
    (of_decide_eq_true (by kernel_rfl)) (by unfold Func.isWrapper; first | (rw [if_pos (by decide +kernel)]; kernel_rfl) | (rw [if_neg (by decide +kernel)]; exact ⟨rfl, rfl⟩))
    (fun os started H enc _ => lifted os started H enc)
theorem proved : Rows.BitsPackBackSaid := over
#print axioms proved
end Go.Proofs.Ytgdlbfkblopoeaa.bitsPackBack
namespace Go.Proofs.Ytgdlbfkblopoeaa
/-- The row, under a short name, for the claim. -/
theorem bitsPackBack_holds : Rows.BitsPackBackSaid := bitsPackBack.proved
end Go.Proofs.Ytgdlbfkblopoeaa
