/- How texts are folded, which are equal, and which comes first: as the document says, for each two texts. -/
import Derived.Test.YtlffejjhkeaniaaSpecB
set_option linter.unusedVariables false
namespace Go.Proofs.Ytlffejjhkeaniaa.Pure
open Go.RowKit Go.Proofs.Ytlffejjhkeaniaa.M Go.Proofs.YtlffejjhkeaniaaW.PrintWords Go.Proofs.YtlffejjhkeaniaaW.PrintLast Go.Proofs.YtlffejjhkeaniaaW.PrintMore Go.Proofs.Ytlffejjhkeaniaa.Spec Go.Proofs.Ytlffejjhkeaniaa.Aux

theorem OctetFolds (a0 : ByteArray) (a1 : ByteArray) (w0 : a0.size ≤ 140737488351232) (w1 : a1.size ≤ 140737488351232) : ∃ k, tithinglaw01_OctetFolds.f k a0 a1 = some true := by
  refine ⟨2 * a0.size + 10, ?_⟩
  unfold tithinglaw01_OctetFolds.f
  rw [fold_ok a0 w0, fold_ref_ok a0 w0 _ (by omega), equal_ok a0 a1 w0 w1, equal_ref_ok a0 a1 w0 _ (by omega), less_ok a0 a1 w0 w1, less_ref_ok a0 a1 w0 _ (by omega)]
  simp only [Option.bind_some, if_true, beq_self_eq_true]
  rw [first_true _ (by omega)]
  rfl

end Go.Proofs.Ytlffejjhkeaniaa.Pure
