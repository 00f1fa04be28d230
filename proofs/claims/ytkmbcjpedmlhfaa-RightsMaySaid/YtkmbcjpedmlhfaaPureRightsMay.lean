/- RightsMay -/
import Derived.Test.YtkmbcjpedmlhfaaUx44
import Derived.Test.YtkmbcjpedmlhfaaUSpecN
set_option linter.unusedVariables false
namespace Go.Proofs.Ytkmbcjpedmlhfaa.Pure
open Go.Proofs.Ytkmbcjpedmlhfaa.USpec Go.RowKit Go.Proofs.Ytkmbcjpedmlhfaa.U Go.Proofs.YtkmbcjpedmlhfaaW.PrintWords Go.Proofs.YtkmbcjpedmlhfaaW.PrintLast Go.Proofs.YtkmbcjpedmlhfaaW.PrintMore

theorem RightsMay (l0 : List (S37)) (a1_0 : Int) (a1_1 : ByteArray) (l2 : List (S24)) (w0 : l0.length * 56 ≤ 140737488351232 ∧ l0.length ≤ maxLen ∧ ∀ x4_ ∈ l0, ((Lit.int .i64 x4_.f0).wf = true) ∧ ((x4_.f1.size ≤ 140737488351232) ∧ (((Lit.int .i64 x4_.f2).wf = true) ∧ (x4_.f3.length * 8 ≤ 140737488351232 ∧ x4_.f3.length ≤ maxLen ∧ ∀ x5_ ∈ x4_.f3, (Lit.int .i64 x5_).wf = true)))) (w1_0 : (Lit.int .i64 a1_0).wf = true) (w1_1 : a1_1.size ≤ 140737488351232) (w2 : l2.length * 48 ≤ 140737488351232 ∧ l2.length ≤ maxLen ∧ ∀ x6_ ∈ l2, ((Lit.int .i64 x6_.f0).wf = true) ∧ (((Lit.int .i64 x6_.f1).wf = true) ∧ (((Lit.int .i64 x6_.f2).wf = true) ∧ (((Lit.int .i64 x6_.f3).wf = true) ∧ (((Lit.int .i64 x6_.f4).wf = true) ∧ (True)))))) : ∃ k, tithinglaw21_RightsMay.f k l0 a1_0 a1_1 l2 = some true := by
  have hs : ∀ u ∈ l0, u.f1.size ≤ 140737488351232 := fun u hu => (w0.2.2 u hu).2.1
  have hl : l0.length ≤ 2513169434917 := by have := w0.1; omega
  have hF : ∀ K, 20 ≤ K → ((tithinglaw21_First.f K).bind fun t186 => (some t186)) = some true := fun K h => by rw [first_true K h, Option.bind_some]
  refine ⟨l0.length + 13001, ?_⟩
  unfold tithinglaw21_RightsMay.f
  rw [few_ok l0 l2 (by omega) _ (by omega), Option.bind_some]
  by_cases h : fewS l0 l2 = true
  case neg => rw [if_neg h, hF _ (by omega)]
  obtain ⟨hf, hy⟩ := few_out h hs
  rw [if_pos h, needs_ok _ _ (by omega), Option.bind_some, needs_ref_ok _ _ (by omega), Option.bind_some, if_pos rfl, if_pos rfl]
  simp only [tithinglaw21_RightsMay.j0]
  rw [if_neg (by simp), May_ok l0 hf _ _ _ _ (by omega), Option.bind_some, May_ref_ok l0 hf _ _ _ (by omega) _ (by omega), Option.bind_some, if_pos (by simp), if_pos rfl, hF _ (by omega)]

end Go.Proofs.Ytkmbcjpedmlhfaa.Pure
