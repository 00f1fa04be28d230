/- Which texts a pattern fits, and which patterns are wild: as the document says, for each pattern and each text. -/
import Derived.Test.YtlffejjhkeaniaaMx12
import Derived.Test.YtlffejjhkeaniaaSpecF
set_option linter.unusedVariables false
namespace Go.Proofs.Ytlffejjhkeaniaa.Pure
open Go.RowKit Go.Proofs.Ytlffejjhkeaniaa.M Go.Proofs.YtlffejjhkeaniaaW.PrintWords Go.Proofs.YtlffejjhkeaniaaW.PrintLast Go.Proofs.YtlffejjhkeaniaaW.PrintMore Go.Proofs.Ytlffejjhkeaniaa.Spec Go.Proofs.Ytlffejjhkeaniaa.Aux

theorem OctetFits (a0 : ByteArray) (a1 : ByteArray) (w0 : a0.size ≤ 140737488351232) (w1 : a1.size ≤ 140737488351232) : ∃ k, tithinglaw01_OctetFits.f k a0 a1 = some true := by
  obtain ⟨r, hr, _⟩ := gap_ok a0 w0
  refine ⟨2 * a0.size + 10, ?_⟩
  unfold tithinglaw01_OctetFits.f
  rw [fits_ok a0 a1 w0 w1 r hr _ (by omega), Option.bind_some, fits_ref_ok a0 a1 w0 w1 r hr _ (by omega), Option.bind_some, if_pos (by simp), wild_ok a0 w0 r hr _ (by omega), Option.bind_some, wild_ref_ok a0 w0 r hr _ (by omega), Option.bind_some, if_pos (by simp), first_true _ (by omega), Option.bind_some]

end Go.Proofs.Ytlffejjhkeaniaa.Pure
