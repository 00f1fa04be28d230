/- RightsAt -/
import Derived.Test.YtkmbcjpedmlhfaaUx39
import Derived.Test.YtkmbcjpedmlhfaaUSpecR
set_option linter.unusedVariables false
namespace Go.Proofs.Ytkmbcjpedmlhfaa.Pure
open Go.Proofs.Ytkmbcjpedmlhfaa.USpec Go.RowKit Go.Proofs.Ytkmbcjpedmlhfaa.U Go.Proofs.YtkmbcjpedmlhfaaW.PrintWords Go.Proofs.YtkmbcjpedmlhfaaW.PrintLast Go.Proofs.YtkmbcjpedmlhfaaW.PrintMore

theorem RightsAt (l0 : List (S37)) (a1 : Int) (l2 : List (S24)) (w0 : l0.length * 56 ≤ 140737488351232 ∧ l0.length ≤ maxLen ∧ ∀ x1_ ∈ l0, ((Lit.int .i64 x1_.f0).wf = true) ∧ ((x1_.f1.size ≤ 140737488351232) ∧ (((Lit.int .i64 x1_.f2).wf = true) ∧ (x1_.f3.length * 8 ≤ 140737488351232 ∧ x1_.f3.length ≤ maxLen ∧ ∀ x2_ ∈ x1_.f3, (Lit.int .i64 x2_).wf = true)))) (w1 : (Lit.int .i64 a1).wf = true) (w2 : l2.length * 48 ≤ 140737488351232 ∧ l2.length ≤ maxLen ∧ ∀ x3_ ∈ l2, ((Lit.int .i64 x3_.f0).wf = true) ∧ (((Lit.int .i64 x3_.f1).wf = true) ∧ (((Lit.int .i64 x3_.f2).wf = true) ∧ (((Lit.int .i64 x3_.f3).wf = true) ∧ (((Lit.int .i64 x3_.f4).wf = true) ∧ (True)))))) : ∃ k, tithinglaw21_RightsAt.f k l0 a1 l2 = some true := by
  have hs : ∀ u ∈ l0, u.f1.size ≤ 140737488351232 := fun u hu => (w0.2.2 u hu).2.1
  have hl : l0.length ≤ 2513169434917 := by have := w0.1; omega
  have hF : ∀ K, 20 ≤ K → ((tithinglaw21_First.f K).bind fun t186 => (some t186)) = some true := fun K h => by rw [first_true K h, Option.bind_some]
  refine ⟨l0.length + 13001, ?_⟩
  unfold tithinglaw21_RightsAt.f
  rw [few_ok l0 l2 (by omega) _ (by omega), Option.bind_some]
  by_cases h : fewS l0 l2 = true
  case neg => rw [if_neg h, hF _ (by omega)]
  obtain ⟨hf, hy⟩ := few_out h hs
  have hE : ∃ r, rights_Effective.f l2 = some r ∧ tithingref21_Effective.f (l0.length + 13001) l2 = some r := by
    unfold rights_Effective.f tithingref21_Effective.f
    rw [isWay_ok, isWay_ref_ok l2 (by omega) _ (by omega), Option.bind_some, Option.bind_some, eff_ref_ok l2 (by omega) _ (by omega)]
    unfold rights_effective.f
    split
    · exact ⟨_, rfl, rfl⟩
    · exact ⟨_, rfl, rfl⟩
  obtain ⟨r, h1, h2⟩ := hE
  rw [if_pos h, h1, Option.bind_some, h2, Option.bind_some, At_ok l0 hf _ _ _ (by omega), Option.bind_some, At_ref_ok l0 hf _ _ (by omega) _ (by omega), Option.bind_some, if_pos (by simp), if_pos rfl, if_pos rfl, if_pos rfl, hF _ (by omega)]

end Go.Proofs.Ytkmbcjpedmlhfaa.Pure
