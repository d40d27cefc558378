/- StringsCommon: the program tells how many bytes two texts have in common from the front, either way about. No condition. -/
import Derived.Test.YtcdephhplmcmjaaGStringsCommon4
import Derived.Test.YtcdephhplmcmjaaGStringsCommon3
namespace Go.Proofs.Ytcdephhplmcmjaa.Pure
open Go.RowKit Go.Proofs.Ytcdephhplmcmjaa.X Go.Proofs.YtcdephhplmcmjaaW.PrintWords Go.Proofs.YtcdephhplmcmjaaW.PrintLast Go.Proofs.YtcdephhplmcmjaaW.PrintMore Go.Proofs.Ytcdephhplmcmjaa.Bx

theorem StringsCommon : marquetrylaw14_StringsCommon.Pure := by
  intro a b _ _
  have hw := works14 (k := 20003) (by omega)
  have stop : marquetrylaw14_StringsCommon.j0 20004 a b true = some true := by
    rw [marquetrylaw14_StringsCommon.j0, if_pos rfl, hw]
    rfl
  by_cases ha : (a.size : Int) > 10000
  · refine ⟨20004, ?_⟩
    unfold marquetrylaw14_StringsCommon.f
    rw [if_pos ha, stop]
  by_cases hb : (b.size : Int) > 10000
  · refine ⟨20004, ?_⟩
    unfold marquetrylaw14_StringsCommon.f
    rw [if_neg ha, decide_eq_true hb, stop]
  · refine ⟨20004, ?_⟩
    unfold marquetrylaw14_StringsCommon.f
    rw [if_neg ha, decide_eq_false hb]
    have h1 : strings_Common.f a b = some ((comZ a b : Nat) : Int) := by
      unfold strings_Common.f
      rw [if_pos ⟨by omega, by omega⟩]
    have h2 : strings_Common.f b a = some ((comZ a b : Nat) : Int) := by
      unfold strings_Common.f
      rw [if_pos ⟨by omega, by omega⟩]
      unfold comZ
      rw [comL_symm]
    have h3 : marquetryref14_Common.f 20003 a b = some ((comZ a b : Nat) : Int) := by
      unfold marquetryref14_Common.f
      refine refCommon a b (by omega) (by omega) a.size 20003 0 (by omega) (by omega) ?_
      rw [List.drop_zero, List.drop_zero]
      unfold comZ
      omega
    rw [marquetrylaw14_StringsCommon.j0, if_neg (by decide), h1, Option.bind_some, h3, Option.bind_some, if_pos rfl, h2, Option.bind_some, if_pos rfl, hw]
    rfl
end Go.Proofs.Ytcdephhplmcmjaa.Pure
