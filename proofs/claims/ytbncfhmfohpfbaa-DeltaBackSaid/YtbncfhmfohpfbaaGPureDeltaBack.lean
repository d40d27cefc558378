/- DeltaBack: for every list of at most 1000 numbers, every bytes behind and every cut the list is read as it was written, whatever stands behind, and each shorter beginning of its bytes is too short. No condition. -/
import Derived.Test.YtbncfhmfohpfbaaGDeltaBack3
namespace Go.Proofs.Ytbncfhmfohpfbaa.Pure
open Go.RowKit Go.Proofs.Ytbncfhmfohpfbaa.X Go.Proofs.YtbncfhmfohpfbaaW.PrintWords Go.Proofs.YtbncfhmfohpfbaaW.PrintLast Go.Proofs.YtbncfhmfohpfbaaW.PrintMore Go.Proofs.Ytbncfhmfohpfbaa.Bx Go.Proofs.Ytbncfhmfohpfbaa.Nx Go.Proofs.Ytbncfhmfohpfbaa.D13
set_option linter.unusedVariables false
set_option linter.unusedSimpArgs false

theorem back_j2 {L : List Int} (hx : ∀ x ∈ L, inI x) (hl : L.length ≤ 1000) (t : List Int) (cut : Int) (b : Bool) (hb : b = true → 0 ≤ cut ∧ cut < ((listB L).length : Int)) : marquetrylaw13_DeltaBack.j2 4001 (listB L) b t cut = some true := by
  rw [show (4001 : Nat) = 4000 + 1 from rfl, marquetrylaw13_DeltaBack.j2]
  cases b with
  | false => rw [if_neg (by decide), works (by decide)]; rfl
  | true =>
    obtain ⟨h0, h1⟩ := hb rfl
    have hs := begin_short hx (by omega) (p := (listB L).take cut.toNat) (s := (listB L).drop cut.toNat) (List.take_append_drop _ _).symm (fun h => by
      have := congrArg List.length h
      rw [List.length_drop, List.length_nil] at this
      omega)
    rw [if_pos rfl, if_pos h0, if_pos (by omega), begin_eq (by decide) (fun x hx => listB_range L x (List.mem_of_mem_take hx)), hs, Option.bind_some]
    unfold marquetrylaw13_num.f
    rw [Option.bind_some, if_pos rfl, works (by decide)]; rfl
theorem DeltaBack : marquetrylaw13_DeltaBack.Pure := by
  rintro L t cut ⟨hL, _, _⟩ ⟨ht, _, _⟩ hcut
  have hx : ∀ x ∈ L, inI x := fun x h => wf_i64 (hL x h)
  have hu : ∀ x ∈ t, 0 ≤ x ∧ x ≤ 255 := fun x h => wf_u8 (ht x h)
  refine ⟨4003, ?_⟩
  unfold marquetrylaw13_DeltaBack.f
  by_cases c : (L.length : Int) > 1000
  · rw [if_pos c, show (4003 : Nat) = 4002 + 1 from rfl, marquetrylaw13_DeltaBack.j0, if_pos rfl, works (by decide)]; rfl
  · rw [if_neg c, show (4003 : Nat) = 4002 + 1 from rfl, marquetrylaw13_DeltaBack.j0]
    by_cases c2 : (t.length : Int) > 1000
    · rw [decide_eq_true c2, if_pos rfl, works (by decide)]; rfl
    · have hl : L.length ≤ 1000 := by omega
      have hr := listB_range L
      have hlen := listB_short hx (show L.length ≤ 65536 by omega)
      have hb := begin_eq (k := 4002) (by decide) (b := listB L ++ t) (fun x hx => by
        rcases List.mem_append.1 hx with h | h
        · exact hr x h
        · exact hu x h)
      rw [begin_back hx (by omega) t] at hb
      have hd := (read_eq (k := 4002) (by decide) hr (L.length : Int)).trans (congrArg some (read_back hx (by omega)))
      have hs := same (k := 4002) (l := L) (by omega) (by omega)
      rw [decide_eq_false c2, if_neg (by decide), write_eq (by decide) hx (by omega), Option.bind_some, Option.bind_some, if_pos (show ([] : List Int).length + (listB L).length < 140737488355328 by rw [List.length_nil]; omega), Option.bind_some, List.nil_append, if_pos (show (listB L).length + t.length < 140737488355328 by omega), hb, Option.bind_some, hd, Option.bind_some]
      unfold marquetrylaw13_num.f
      rw [Option.bind_some, if_pos rfl, hs, Option.bind_some, if_pos rfl, if_pos rfl, Option.bind_some, if_pos rfl, Option.bind_some, if_pos rfl, Option.bind_some]
      rw [show (4002 : Nat) = 4001 + 1 from rfl, marquetrylaw13_DeltaBack.j1, if_neg (show ¬ (((0 : Int) != 0) = true) by decide)]
      by_cases c3 : cut ≥ 0
      · rw [if_pos c3]
        exact back_j2 hx hl t cut _ (fun h => ⟨c3, of_decide_eq_true h⟩)
      · rw [if_neg c3]
        exact back_j2 hx hl t cut false (fun h => by cases h)
end Go.Proofs.Ytbncfhmfohpfbaa.Pure
