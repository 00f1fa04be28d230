/- The bytes of texts, and what is read of bytes, are the document's, for each text, each list of bytes and each offset. -/
import Derived.Test.YtlffejjhkeaniaaSpecT
set_option linter.unusedVariables false
namespace Go.Proofs.Ytlffejjhkeaniaa.Pure
open Go.RowKit Go.Proofs.Ytlffejjhkeaniaa.M Go.Proofs.YtlffejjhkeaniaaW.PrintWords Go.Proofs.YtlffejjhkeaniaaW.PrintLast Go.Proofs.YtlffejjhkeaniaaW.PrintMore Go.Proofs.Ytlffejjhkeaniaa.Spec Go.Proofs.Ytlffejjhkeaniaa.Aux

theorem OctetTexts (a0 : ByteArray) (l1 : List Int) (a2 : Int) (w0 : a0.size ≤ 140737488351232) (w1 : l1.length * 1 ≤ 140737488351232 ∧ l1.length ≤ maxLen ∧ ∀ x2_ ∈ l1, (Lit.int .u8 x2_).wf = true) (w2 : (Lit.int .i64 a2).wf = true) : ∃ k, tithinglaw01_OctetTexts.f k a0 l1 a2 = some true := by
  obtain ⟨h1, _, h3⟩ := w1
  have hb : ∀ x ∈ l1, 0 ≤ x ∧ x ≤ 255 := fun x hx => byte_of h3 hx
  have t := i64_of w2
  refine ⟨20, ?_⟩
  unfold tithinglaw01_OctetTexts.f
  rw [putText_ok, putText_ref_ok, getText_ok _ _ (by omega) hb t.1 t.2 _ (by omega), getText_ref_ok _ _ (by omega) hb t.1 t.2 _ (by omega)]
  simp only [Option.bind_some, if_true]
  rw [first_true _ (by omega)]
  rfl

end Go.Proofs.Ytlffejjhkeaniaa.Pure
