/- The bytes of numbers, and what is read of bytes, are the document's, for each number of bytes, each number, each offset and each list of bytes. -/
import Derived.Test.YtlffejjhkeaniaaSpecA
namespace Go.Proofs.Ytlffejjhkeaniaa.Pure
open Go.RowKit Go.Proofs.Ytlffejjhkeaniaa.M Go.Proofs.YtlffejjhkeaniaaW.PrintWords Go.Proofs.YtlffejjhkeaniaaW.PrintLast Go.Proofs.YtlffejjhkeaniaaW.PrintMore Go.Proofs.Ytlffejjhkeaniaa.Spec Go.Proofs.Ytlffejjhkeaniaa.Aux

theorem OctetNumbers (a0_0 : Int) (a0_1 : Int) (a0_2 : Int) (l1 : List Int) (w0_0 : (Lit.int .i64 a0_0).wf = true) (w0_1 : (Lit.int .i64 a0_1).wf = true) (w0_2 : (Lit.int .i64 a0_2).wf = true) (w1 : l1.length * 1 ≤ 140737488351232 ∧ l1.length ≤ maxLen ∧ ∀ x1_ ∈ l1, (Lit.int .u8 x1_).wf = true) : ∃ k, tithinglaw01_OctetNumbers.f k a0_0 a0_1 a0_2 l1 = some true := by
  obtain ⟨w1, _, w3⟩ := w1
  have hb : ∀ x ∈ l1, 0 ≤ x ∧ x ≤ 255 := fun x hx => byte_of w3 hx
  have v := i64_of w0_1
  have t := i64_of w0_2
  refine ⟨20, ?_⟩
  unfold tithinglaw01_OctetNumbers.f
  rw [put_ok _ _ v.1 v.2 _ (by omega), put_ref_ok _ _ v.1 v.2 _ (by omega), get_ok _ _ _ (by omega) hb t.1 t.2 _ (by omega), get_ref_ok _ _ _ (by omega) hb t.1 t.2 _ (by omega)]
  simp only [Option.bind_some, if_true]
  rw [first_true _ (by omega)]
  rfl

end Go.Proofs.Ytlffejjhkeaniaa.Pure
