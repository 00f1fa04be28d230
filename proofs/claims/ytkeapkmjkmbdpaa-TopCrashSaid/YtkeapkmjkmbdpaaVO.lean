/- Heads: the document's way. -/
import Derived.Test.YtkeapkmjkmbdpaaVN
namespace Go.Proofs.Ytkeapkmjkmbdpaa.V
open Go Go.Proofs.YtkeapkmjkmbdpaaV
set_option linter.unusedVariables false
set_option linter.unusedSimpArgs false
set_option maxHeartbeats 1000000
set_option maxRecDepth 4000
attribute [local irreducible] IntKind.wrap
variable {I : Imm} {w : World} {L : List Asn}
theorem mem_tgts {b : By} {m : Nat} {x : Int} (h : x ∈ tgts b m) : ∃ i, i < m ∧ x = tgtAt b i := by
  unfold tgts at h
  obtain ⟨i, hi, rfl⟩ := List.mem_map.1 h
  exact ⟨i, List.mem_range.1 hi, rfl⟩
end Go.Proofs.Ytkeapkmjkmbdpaa.V
