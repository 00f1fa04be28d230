/- RightsHas -/
import Derived.Test.YtkmbcjpedmlhfaaSpecH
import Derived.Test.YtkmbcjpedmlhfaaMx13
set_option linter.unusedVariables false
namespace Go.Proofs.Ytkmbcjpedmlhfaa.Pure
open Go.Proofs.Ytkmbcjpedmlhfaa.Spec Go.RowKit Go.Proofs.Ytkmbcjpedmlhfaa.M Go.Proofs.YtkmbcjpedmlhfaaW.PrintWords Go.Proofs.YtkmbcjpedmlhfaaW.PrintLast Go.Proofs.YtkmbcjpedmlhfaaW.PrintMore

theorem RightsHas (l0 : List (S37)) (a1 : Int) (a2_0 : Int) (a2_1 : Int) (a2_2 : Int) (a2_3 : Int) (a2_4 : Int) (a2_5 : Bool) (w0 : l0.length * 56 ≤ 140737488351232 ∧ l0.length ≤ maxLen ∧ ∀ x1_ ∈ l0, ((Lit.int .i64 x1_.f0).wf = true) ∧ ((x1_.f1.size ≤ 140737488351232) ∧ (((Lit.int .i64 x1_.f2).wf = true) ∧ (x1_.f3.length * 8 ≤ 140737488351232 ∧ x1_.f3.length ≤ maxLen ∧ ∀ x2_ ∈ x1_.f3, (Lit.int .i64 x2_).wf = true)))) (w1 : (Lit.int .i64 a1).wf = true) (w2_0 : (Lit.int .i64 a2_0).wf = true) (w2_1 : (Lit.int .i64 a2_1).wf = true) (w2_2 : (Lit.int .i64 a2_2).wf = true) (w2_3 : (Lit.int .i64 a2_3).wf = true) (w2_4 : (Lit.int .i64 a2_4).wf = true) : ∃ k, tithinglaw21_RightsHas.f k l0 a1 a2_0 a2_1 a2_2 a2_3 a2_4 a2_5 = some true := by
  have hs : ∀ u ∈ l0, u.f1.size ≤ 140737488351232 := fun u hu => (w0.2.2 u hu).2.1
  have hl : l0.length ≤ 2513169434917 := by have := w0.1; omega
  refine ⟨l0.length + 13001, ?_⟩
  unfold tithinglaw21_RightsHas.f
  rw [few_ok l0 [] (by omega) _ (by omega), Option.bind_some]
  have hF : ∀ K, 20 ≤ K → ((tithinglaw21_First.f K).bind fun t186 => (some t186)) = some true := fun K h => by rw [first_true K h, Option.bind_some]
  simp only [tithinglaw21_RightsHas.j0]
  by_cases h : fewS l0 [] = true
  case neg => rw [if_neg h, if_pos trivial, hF _ (by omega)]
  rw [if_pos h]
  by_cases hb : a2_5 = true
  · rw [if_pos hb, hF _ (by omega)]
  rw [if_neg hb, Has_ok l0 (few_out h hs).1 _ _ _ _ _ _ _ _ (by omega), Option.bind_some, Has_ref_ok l0 (few_out h hs).1 _ _ _ _ _ _ _ _ (by omega), Option.bind_some, if_pos rfl, if_pos rfl, hF _ (by omega)]

end Go.Proofs.Ytkmbcjpedmlhfaa.Pure
