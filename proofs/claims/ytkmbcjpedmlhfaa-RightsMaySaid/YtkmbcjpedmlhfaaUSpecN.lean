/- What is needed, who may: the document's. -/
import Derived.Test.YtkmbcjpedmlhfaaUx43
import Derived.Test.YtkmbcjpedmlhfaaUSpecM
import Derived.Test.YtkmbcjpedmlhfaaUSpecR
set_option linter.unusedVariables false
namespace Go.Proofs.Ytkmbcjpedmlhfaa.USpec
open Go.RowKit Go.Proofs.Ytkmbcjpedmlhfaa.U Go.Proofs.YtkmbcjpedmlhfaaW.PrintWords Go.Proofs.YtkmbcjpedmlhfaaW.PrintLast Go.Proofs.YtkmbcjpedmlhfaaW.PrintMore Go.Proofs.Ytkmbcjpedmlhfaa.Aux

theorem needs_ref_ok (a : ByteArray) (k : Nat) (hk : 1 ≤ k) : tithingref21_Needs.f k a = some (needsS a) := by
  rw [← needs_ok a k hk]
  obtain ⟨k, rfl⟩ : ∃ m, k = m + 1 := ⟨k - 1, by omega⟩
  unfold rights_Needs.f tithingref21_Needs.f
  simp only [rights_Needs.j0, tithingref21_Needs.j0]
theorem May_ref_ok (l : List S37) (hf : FewU l) (u : Int) (a : ByteArray) (w : List S24) (hl : w.length ≤ 200) (k : Nat) (hk : 12400 ≤ k) : tithingref21_May.f k l u a w = some (MayS l u a w) := by
  obtain ⟨k, rfl⟩ : ∃ m, k = m + 1 := ⟨k - 1, by omega⟩
  unfold tithingref21_May.f MayS
  rw [needs_ref_ok a _ (by omega), Option.bind_some, At_ref_ok l hf u w hl _ (by omega), Option.bind_some]
  simp only [tithingref21_May.j0]
  rcases (needs_err a).1 with h | h
  · rw [if_pos h, if_pos h]
    by_cases h0 : (AtS l u w).2 = 0
    · rw [h0, if_neg (by decide), if_pos rfl, if_pos rfl]
    · by_cases h2 : (AtS l u w).2 = 2
      · rw [h2, if_pos (by decide), if_neg (by decide)]
      · rw [if_neg (by rw [beq_iff_eq]; exact h2), if_neg h0, if_neg h0]
  · rw [h, if_neg (by decide), if_pos trivial, if_neg (by decide)]
end Go.Proofs.Ytkmbcjpedmlhfaa.USpec
