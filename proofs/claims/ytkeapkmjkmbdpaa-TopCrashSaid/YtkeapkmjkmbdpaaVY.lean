/- The document's store. -/
import Derived.Test.YtkeapkmjkmbdpaaVX
namespace Go.Proofs.Ytkeapkmjkmbdpaa.V
open Go Go.Proofs.YtkeapkmjkmbdpaaV
set_option linter.unusedVariables false
set_option linter.unusedSimpArgs false
set_option maxHeartbeats 1000000
set_option maxRecDepth 4000
attribute [local irreducible] IntKind.wrap
variable {I : Imm} {w : World} {L : List Asn}
/-- What readers of a list and its data know. -/
structure WlR (I : Imm) (L : List Asn) (v : Value) (wl : Wl) : Prop where mk ::
  out : SlR I L v 2 wl.length (wl.flatMap wrC) ∧ ∀ x ∈ wl, SlR I L x.2.1 1 x.2.2.length (byL x.2.2)
end Go.Proofs.Ytkeapkmjkmbdpaa.V
