/- RightsChange -/
import Derived.Test.YtkmbcjpedmlhfaaSpecH
import Derived.Test.YtkmbcjpedmlhfaaMx15
set_option linter.unusedVariables false
namespace Go.Proofs.Ytkmbcjpedmlhfaa.Pure
open Go.Proofs.Ytkmbcjpedmlhfaa.Spec Go.RowKit Go.Proofs.Ytkmbcjpedmlhfaa.M Go.Proofs.YtkmbcjpedmlhfaaW.PrintWords Go.Proofs.YtkmbcjpedmlhfaaW.PrintLast Go.Proofs.YtkmbcjpedmlhfaaW.PrintMore

theorem RightsChange (l0 : List (S37)) (a1 : Int) (a2_0 : Int) (a2_1 : Int) (a2_2 : Int) (a2_3 : Int) (a2_4 : Int) (a2_5 : Bool) (a2_6 : Int) (a2_7 : Int) (a2_8 : Int) (a2_9 : Int) (a2_10 : Int) (a2_11 : Bool) (w0 : l0.length * 56 ≤ 140737488351232 ∧ l0.length ≤ maxLen ∧ ∀ x3_ ∈ l0, ((Lit.int .i64 x3_.f0).wf = true) ∧ ((x3_.f1.size ≤ 140737488351232) ∧ (((Lit.int .i64 x3_.f2).wf = true) ∧ (x3_.f3.length * 8 ≤ 140737488351232 ∧ x3_.f3.length ≤ maxLen ∧ ∀ x4_ ∈ x3_.f3, (Lit.int .i64 x4_).wf = true)))) (w1 : (Lit.int .i64 a1).wf = true) (w2_0 : (Lit.int .i64 a2_0).wf = true) (w2_1 : (Lit.int .i64 a2_1).wf = true) (w2_2 : (Lit.int .i64 a2_2).wf = true) (w2_3 : (Lit.int .i64 a2_3).wf = true) (w2_4 : (Lit.int .i64 a2_4).wf = true) (w2_6 : (Lit.int .i64 a2_6).wf = true) (w2_7 : (Lit.int .i64 a2_7).wf = true) (w2_8 : (Lit.int .i64 a2_8).wf = true) (w2_9 : (Lit.int .i64 a2_9).wf = true) (w2_10 : (Lit.int .i64 a2_10).wf = true) : ∃ k, tithinglaw21_RightsChange.f k l0 a1 a2_0 a2_1 a2_2 a2_3 a2_4 a2_5 a2_6 a2_7 a2_8 a2_9 a2_10 a2_11 = some true := by
  have hs : ∀ u ∈ l0, u.f1.size ≤ 140737488351232 := fun u hu => (w0.2.2 u hu).2.1
  have hl : l0.length ≤ 2513169434917 := by have := w0.1; omega
  refine ⟨l0.length + 13001, ?_⟩
  unfold tithinglaw21_RightsChange.f
  rw [few_ok l0 [] (by omega) _ (by omega), Option.bind_some]
  have hF : ∀ K, 20 ≤ K → ((tithinglaw21_First.f K).bind fun t186 => (some t186)) = some true := fun K h => by rw [first_true K h, Option.bind_some]
  by_cases h : fewS l0 [] = true
  case neg => rw [if_neg h, hF _ (by omega)]
  have hf := (few_out h hs).1
  rw [if_pos h]
  have hE : rights_Change.f (l0.length + 13001) l0 a1 a2_0 a2_1 a2_2 a2_3 a2_4 a2_5 a2_6 a2_7 a2_8 a2_9 a2_10 a2_11 = tithingref21_Change.f (l0.length + 13001) l0 a1 a2_0 a2_1 a2_2 a2_3 a2_4 a2_5 a2_6 a2_7 a2_8 a2_9 a2_10 a2_11 ∧ ∃ r, rights_Change.f (l0.length + 13001) l0 a1 a2_0 a2_1 a2_2 a2_3 a2_4 a2_5 a2_6 a2_7 a2_8 a2_9 a2_10 a2_11 = some r := by
    unfold rights_Change.f tithingref21_Change.f
    rw [validR_ok, validR_ok, validR_ref_ok, validR_ref_ok, valid_ref_ok l0 hf _ (by omega)]
    simp only [Option.bind_some]
    rw [asked_ok l0 hf _ _ _ (by omega), asked_ok l0 hf _ _ _ (by omega)]
    simp only [Option.bind_some, rights_Change.j0, tithingref21_Change.j0, askedS]
    rw [groups_ref_ok l0 a1 hf.1 _ (by omega), Option.bind_some]
    cases validS l0 <;> cases validR a2_0 a2_1 a2_2 a2_3 a2_4 <;> cases validR a2_6 a2_7 a2_8 a2_9 a2_10 <;> cases (grS l0 a1).2 <;> by_cases h0 : a1 = 0 <;> by_cases h1 : a2_0 = 0 <;> by_cases h2 : a2_0 = a1 <;> simp [h0, h1, h2]
  obtain ⟨hE, r, hr⟩ := hE
  rw [← hE, hr, Option.bind_some, Option.bind_some, if_pos (by simp), if_pos rfl, hF _ (by omega)]

end Go.Proofs.Ytkmbcjpedmlhfaa.Pure
